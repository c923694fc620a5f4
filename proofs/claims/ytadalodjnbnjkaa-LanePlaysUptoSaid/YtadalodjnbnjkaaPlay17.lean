/- The document's net: reach. -/
import Derived.Test.YtadalodjnbnjkaaPlay16
namespace Go.Proofs.Ytadalodjnbnjkaa
open Go.RowKit Go.Conc

def reachStep (t : Nat) (S : Rf × List Ml) (x : Ml) : Rf × List Ml := if x.due = t then (S.1.come x.lane x.msg, S.2) else (S.1, S.2 ++ [x])
def Rf.reachK (R : Rf) (t k : Nat) : Rf × List Ml := (R.lates.take k).foldl (reachStep t) ({ R with time := t }, [])
def Rf.reach (R : Rf) (t : Nat) : Rf := { (R.reachK t R.lates.length).1 with lates := (R.reachK t R.lates.length).2 }
theorem reachK_succ {R : Rf} {t k : Nat} {x : Ml} (h : R.lates[k]? = some x) : R.reachK t (k + 1) = reachStep t (R.reachK t k) x := by
  have hk := List.getElem?_eq_some_iff.1 h
  unfold Rf.reachK
  rw [List.take_succ_eq_append_getElem hk.1, hk.2, List.foldl_append]
  rfl
theorem foldl_reach (t : Nat) : ∀ (L : List Ml) (S : Rf × List Ml), (L.foldl (reachStep t) S).1.nl = S.1.nl ∧ (L.foldl (reachStep t) S).1.lates = S.1.lates ∧ (L.foldl (reachStep t) S).1.time = S.1.time
  | [], S => ⟨rfl, rfl, rfl⟩
  | x :: L, S => by
    rw [List.foldl_cons]
    obtain ⟨h1, h2, h3⟩ := foldl_reach t L (reachStep t S x)
    rw [h1, h2, h3]
    unfold reachStep
    split
    · exact ⟨rfl, rfl, rfl⟩
    · exact ⟨rfl, rfl, rfl⟩
theorem reachK_nl (R : Rf) (t k : Nat) : (R.reachK t k).1.nl = R.nl := (foldl_reach t _ _).1
theorem reachK_lates (R : Rf) (t k : Nat) : (R.reachK t k).1.lates = R.lates := (foldl_reach t _ _).2.1
theorem reachK_len (R : Rf) (t : Nat) : ∀ k, k ≤ R.lates.length → (R.reachK t k).2.length ≤ k
  | 0, _ => by simp [Rf.reachK]
  | k + 1, h => by
    obtain ⟨x, hx⟩ : ∃ x, R.lates[k]? = some x := ⟨_, List.getElem?_eq_getElem (by omega)⟩
    have ih := reachK_len R t k (by omega)
    rw [reachK_succ hx]
    unfold reachStep
    split
    · show (R.reachK t k).2.length ≤ k + 1
      omega
    · show ((R.reachK t k).2 ++ [x]).length ≤ k + 1
      simp; omega

/-- The loop of reach. -/
structure Rch (w : World) (own : ROwn) (G : Nat) (R : Rf) (t k : Nat) (rv : Value) (own' : ROwn) (X : List (Ml × Value)) (wr : World) : Prop where
  ref : RefIs wr own' G (R.reachK t k).1
  mv : Mv own.may w wr
  grows : RGrows w.heap.size own own'
  list : X.map Prod.fst = (R.reachK t k).2
  row : wr.ownsRow w.heap.size 136 3 rv X.length (latCells X)
  dat : ∀ x ∈ X, DatIs wr own' x.2 x.1.msg
  free : ∀ b, rv.ownBlock = some b → own' b = none
theorem Rch.start {w : World} {own : ROwn} {G : Nat} {R : Rf} (h : RefIs w own G R) (t : Nat) : Rch w own G R t 0 (.slice none 0 0) own [] (w.setCell ⟨G, 0, none⟩ (.int .i64 t)) := by
  obtain ⟨fv, wb, wcap, sb, scap, lv, cur, hp⟩ := h.parts
  have hm : Mv own.may w (w.setCell ⟨G, 0, none⟩ (.int .i64 t)) := (Mv.refl _ _).setCell (.inl ⟨by rw [hp.head.1]; simp, by rw [hp.head.1]; simp⟩) _
  have k : ∀ b u, own b = some u → u ≠ .net → own b = some u ∧ (w.setCell ⟨G, 0, none⟩ (.int .i64 t)).heap[b]? = w.heap[b]? := fun b u hb hu => ⟨hb, heap_setCell_other (fun e => by rw [e, hp.head.1] at hb; cases hb; exact hu rfl) _⟩
  refine ⟨⟨hp.lies.mono hm.size, fv, wb, wcap, sb, scap, lv, ⟨hp.head.1, ?_⟩, hp.fates.keep fun b hb => k b _ hb (by simp), ⟨hp.warr, hp.cap, cur, (k wb _ hp.warr (by simp)).2.trans hp.arr, fun j hj => ?_⟩, hp.sarr.keep fun b hb => k b _ hb (by simp), hp.lates.keep fun b u hb hu => k b u hb (by rcases hu with rfl | rfl <;> simp)⟩, hm, RGrows.refl _ _, rfl, World.ownsRow_nil _ _ _ _, fun x hx => by simp at hx, fun b hb => by simp [Value.ownBlock] at hb⟩
  · rw [heap_setCell_same hp.head.2]
    simp [Rf.reachK]
  · obtain ⟨u, q1, q2⟩ := hp.wl j hj
    exact ⟨u, q1, q2.keep fun b u hb hu => k b u hb (by rcases hu with rfl | rfl <;> simp)⟩
theorem Rch.calm {w wr w1 : World} {own own' : ROwn} {G t k : Nat} {R : Rf} {rv : Value} {X : List (Ml × Value)} (h : Rch w own G R t k rv own' X wr) (hb : Mv (fun _ => False) wr w1) : Rch w own G R t k rv own' X w1 :=
  ⟨h.ref.still hb, h.mv.trans' hb (fun _ _ hh => hh.elim), h.grows, h.list, ownsRow_keep h.row fun b hh => hb.block b (h.row.lt b hh).2 id, fun x hx => (h.dat x hx).keep fun b hh => ⟨hh, hb.block b (h.ref.1 b _ hh) id⟩, h.free⟩
/-- A message that is due comes. -/
theorem Rch.comes {w wr w1 : World} {own own' : ROwn} {G t k : Nat} {R : Rf} {rv : Value} {X : List (Ml × Value)} {x : Ml} (h : Rch w own G R t k rv own' X wr) (hx : R.lates[k]? = some x) (hd : x.due = t) {e₀ e : Ending}
    (hL : RLeaves wr own' G ((R.reachK t k).1.come x.lane x.msg) e₀ e w1) : ∃ own2, Rch w own G R t (k + 1) rv own2 X w1 := by
  obtain ⟨_, own2, h1, h2, h3⟩ := hL
  have es : R.reachK t (k + 1) = ((R.reachK t k).1.come x.lane x.msg, (R.reachK t k).2) := by rw [reachK_succ hx]; unfold reachStep; rw [if_pos hd]
  refine ⟨own2, by rw [es]; exact h1, h.mv.trans' h2 (fun b hb hh => h.grows.may hb hh), h.grows.trans h3 h.mv.size, by rw [es]; exact h.list, ownsRow_keep h.row fun b hb => ?_, fun y hy => (h.dat y hy).keep fun b hb => ⟨h3.2 b hb, ?_⟩, fun b hb => ?_⟩
  · exact h2.block b (h.row.lt b hb).2 (fun hh => hh.1 (h.free b hb))
  · exact h2.block b (h.ref.1 b _ hb) (fun hh => hh.2 hb)
  · exact h3.1 b (h.row.lt b hb).2 (h.free b hb)
/-- .. or stays on its way. -/
theorem Rch.stays {w wr w1 : World} {own own' : ROwn} {G t k gg cap : Nat} {R : Rf} {rv : Value} {X : List (Ml × Value)} {x : Ml} {u : Value} (h : Rch w own G R t k rv own' X wr) (hx : R.lates[k]? = some x) (hd : x.due ≠ t) (hu : DatIs wr own' u x.msg)
    {o : Obj} (hgrow : (wr.alloc o).grownBy w1 rv.ownBlock) (hat : rv.ownBlock = some gg ∨ gg = wr.heap.size + 1)
    (hown : w1.ownsRow w.heap.size 136 3 (.slice (some ⟨gg, 0, none⟩) (X.length + 1) cap) (X.length + 1) (latCells X ++ [.int .i64 x.due, .int .i64 x.lane, u])) : Rch w own G R t (k + 1) (.slice (some ⟨gg, 0, none⟩) (X.length + 1) cap) own' (X ++ [(x, u)]) w1 := by
  have es : R.reachK t (k + 1) = ((R.reachK t k).1, (R.reachK t k).2 ++ [x]) := by rw [reachK_succ hx]; unfold reachStep; rw [if_neg hd]
  have hm : Mv (fun b => rv.ownBlock = some b) wr w1 := ((Mv.refl _ _).alloc _).grown hgrow (fun b hb => .inl hb)
  have hk : ∀ b s, own' b = some s → own' b = some s ∧ w1.heap[b]? = wr.heap[b]? := fun b s hb => ⟨hb, hm.block b (h.ref.1 b s hb) (fun e => by rw [h.free b e] at hb; cases hb)⟩
  refine ⟨by rw [es]; exact h.ref.keep (h.ref.1.mono hm.size) hk, h.mv.trans' hm (fun b hb e => by have := (h.row.lt b e).1; omega), h.grows, by rw [es, List.map_append, h.list]; rfl, ?_, fun y hy => ?_, fun b hb => ?_⟩
  · rw [List.length_append, latCells_snoc]; exact hown
  · simp only [List.mem_append, List.mem_singleton] at hy
    rcases hy with hy | rfl
    · exact (h.dat y hy).keep fun b hb => hk b _ hb
    · exact hu.keep fun b hb => hk b _ hb
  · have : gg = b := by simpa [Value.ownBlock] using hb
    subst this
    rcases hat with hat | hat
    · exact h.free gg hat
    · exact h.ref.1.none (by omega)
/-- The list that is left is laid into the net. -/
theorem Rch.finish {w wr : World} {own own' : ROwn} {G t : Nat} {R : Rf} {rv : Value} {X : List (Ml × Value)} (h : Rch w own G R t R.lates.length rv own' X wr) : RLeaves w own G (R.reach t) (.returned (.tuple #[])) (.returned (.tuple #[])) (wr.setCell ⟨G, 5, none⟩ rv) := by
  obtain ⟨fv, wb, wcap, sb, scap, lv, cur, hp⟩ := h.ref.parts
  have hrG : ∀ b, rv.ownBlock = some b → b ≠ G := fun b hb e => by have := h.free b hb; rw [e, hp.head.1] at this; cases this
  -- the new row's block is the net's
  have hown : ∃ own2 : ROwn, (∀ b, rv.ownBlock = some b → own2 b = some .lates) ∧ (∀ b s, own' b = some s → own2 b = some s) ∧ (∀ b s, own2 b = some s → own' b = some s ∨ rv.ownBlock = some b) := by
    cases hb : rv.ownBlock with
    | none => exact ⟨own', fun b h => by (cases h), fun _ _ h => h, fun _ _ h => .inl h⟩
    | some g =>
      refine ⟨own'.put g .lates, fun b hb2 => ?_, fun b s hs => ?_, fun b s hs => ?_⟩
      · cases hb2; exact ROwn.put_same _ _ _
      · rw [ROwn.put_other _ _ (fun e => by subst e; rw [h.free b hb] at hs; cases hs)]; exact hs
      · by_cases e : b = g
        · subst e; exact .inr rfl
        · rw [ROwn.put_other _ _ e] at hs; exact .inl hs
  obtain ⟨own2, o1, o2, o3⟩ := hown
  have hm : Mv own'.may wr (wr.setCell ⟨G, 5, none⟩ rv) := (Mv.refl _ _).setCell (.inl ⟨by rw [hp.head.1]; simp, by rw [hp.head.1]; simp⟩) _
  have k : ∀ b u, own' b = some u → u ≠ .net → own2 b = some u ∧ (wr.setCell ⟨G, 5, none⟩ rv).heap[b]? = wr.heap[b]? := fun b u hb hu => ⟨o2 b u hb, heap_setCell_other (fun e => by rw [e, hp.head.1] at hb; cases hb; exact hu rfl) _⟩
  have hsz : (wr.setCell ⟨G, 5, none⟩ rv).heap.size = wr.heap.size := by simp
  refine ⟨rfl, own2, ⟨fun b s hs => ?_, fv, wb, wcap, sb, scap, rv, ⟨o2 _ _ hp.head.1, ?_⟩, hp.fates.keep fun b hb => k b _ hb (by simp), ⟨o2 _ _ hp.warr, hp.cap, cur, (k wb _ hp.warr (by simp)).2.trans hp.arr, fun j hj => ?_⟩, hp.sarr.keep fun b hb => k b _ hb (by simp),
    ⟨X, h.list, ownsRow_base (ownsRow_keep h.row fun b hb => heap_setCell_other (hrG b hb) _) (Nat.zero_le _), o1, fun x hx => (h.dat x hx).keep fun b hb => k b _ hb (by simp)⟩⟩, h.mv.trans' hm (fun b hb hh => h.grows.may hb hh), ⟨fun b hb ho => ?_, fun b hb => o2 b _ (h.grows.2 b hb)⟩⟩
  · rw [hsz]
    rcases o3 b s hs with h1 | h1
    · exact hp.lies b s h1
    · exact (h.row.lt b h1).2
  · rw [heap_setCell_same hp.head.2]
    simp [Rf.reach]
  · obtain ⟨u, q1, q2⟩ := hp.wl j hj
    exact ⟨u, q1, q2.keep fun b u hb hu => k b u hb (by rcases hu with rfl | rfl <;> simp)⟩
  · cases hs : own2 b with
    | none => rfl
    | some s =>
      rcases o3 b s hs with h1 | h1
      · rw [h.grows.1 b hb ho] at h1; cases h1
      · have := (h.row.lt b h1).1; omega

set_option maxRecDepth 100000 in
set_option maxHeartbeats 1600000 in
theorem reach_any (w : World) (own : ROwn) (G : Nat) (R : Rf) (t : Nat) (h : RefIs w own G R) (hL : R.lates.length < 549755813888) (hlane : ∀ x ∈ R.lates, x.lane < R.nl) :
    Calls Try.prog 62 #[.pointer (some ⟨G, 0, none⟩), .int .i64 t] w (RLeaves w own G (R.reach t) (.returned (.tuple #[]))) := by
  obtain ⟨i0, hi0, hz0, hz1, hz2⟩ := info_parts Try.info136
  have c0 : w.cell? ⟨G, 0, none⟩ = some (.int .i64 R.time) := by
    obtain ⟨fv, wb, wcap, sb, scap, lv, cur, hp⟩ := h.parts
    exact cell_of_heap hp.head.2 0 rfl
  have f0 : w.frozen? ⟨G, 0, none⟩ = false := by
    obtain ⟨fv, wb, wcap, sb, scap, lv, cur, hp⟩ := h.parts
    exact free_of_heap hp.head.2 0
  have HS := Lib.hid (Rch.start h t)
  have HLANE := Lib.hid hlane
  obtain ⟨n, hn⟩ : ∃ n, n = R.lates.length := ⟨_, rfl⟩
  rw [← hn] at hL
  have HN := Lib.hid hn
  clear h hlane hn
  go_enter Try.func62, Try.ntmps62
  go_wp2_with fail
  go_loopw [4, 5] (fun rv i wr => ∃ (k : Nat) (own' : ROwn) (X : List (Ml × Value)), k ≤ n ∧ i = .int .i64 k ∧ Rch w own G R t k rv own' X wr) (fun _ i _ => n - (intOf i).toNat)
  case atStart => exact ⟨0, own, [], Nat.zero_le _, rfl, HS.out⟩
  case round =>
    obtain ⟨k, own', X, hk, rfl, hrel⟩ := hrel
    have HR := Lib.hid hrel
    obtain ⟨fv, wb, wcap, sb, scap, lv, cur, hp⟩ := hrel.ref.parts
    obtain ⟨la, lc, rfl, hcells⟩ := hp.lates.shape
    have c5 : wr.cell? ⟨G, 5, none⟩ = some (.slice la n lc) := by
      have := cell_of_heap hp.head.2 5 rfl
      rw [reachK_lates, ← HN.out] at this
      exact this
    have f5 : wr.frozen? ⟨G, 5, none⟩ = false := free_of_heap hp.head.2 5
    have hGl := lt_of_heap hp.head.2
    have hsz := hrel.mv.size
    have HC := Lib.hid hcells
    clear hrel hp hcells HS
    by_cases hlt : k < n
    · have hkk : (k : Int) < n := by omega
      have hk0 : (0 : Int) ≤ k := by omega
      obtain ⟨x, hx⟩ : ∃ y, R.lates[k]? = some y := ⟨_, List.getElem?_eq_getElem (by rw [← HN.out]; exact hlt)⟩
      obtain ⟨g, u, rfl, q0, q1, q2, hu⟩ := HC.out k x (by rw [reachK_lates]; exact hx)
      have hgl : g < wr.heap.size := World.block_lt_of_cell? _ _ q0
      have hxl := HLANE.out x (List.mem_of_getElem? hx)
      have HX := Lib.hid hx
      have HU := Lib.hid hu
      have HXL := Lib.hid hxl
      have hXl : X.length ≤ k := by
        have := reachK_len R t k (by rw [← HN.out]; omega)
        rw [← HR.out.list, List.length_map] at this
        exact this
      obtain ⟨xd, hxd⟩ : ∃ v, v = x.due := ⟨_, rfl⟩
      obtain ⟨xl, hxl2⟩ : ∃ v, v = x.lane := ⟨_, rfl⟩
      rw [← hxd] at q0
      rw [← hxl2] at q1
      obtain ⟨ua, uc, rfl, _⟩ := hu
      obtain ⟨un, hun⟩ : ∃ v, v = x.msg.length := ⟨_, rfl⟩
      rw [← hun] at q2 HU
      have HXD := Lib.hid hxd
      have HXL2 := Lib.hid hxl2
      clear hx hxl hxd hxl2 hun
      by_cases hd : xd = t
      · have hd' : ((xd : Int) == t) = true := by simp [hd]
        have hcall : Calls Try.prog 65 #[.pointer (some ⟨G, 0, none⟩), .int .i64 xl, .slice ua un uc] (wr.alloc (.cells #[.int .i64 xd, .int .i64 xl, .slice ua un uc] 136)) (RLeaves (wr.alloc (.cells #[.int .i64 xd, .int .i64 xl, .slice ua un uc] 136)) own' G ((R.reachK t k).1.come x.lane x.msg) (.returned (.tuple #[]))) := by
          rw [HXL2.out]
          exact rcome_any _ own' G _ x.lane x.msg _ (HR.out.ref.still ((Mv.refl _ _).alloc _)) (by rw [reachK_nl]; exact HXL.out) (HU.out.keep fun b hb => ⟨hb, Below.heap_alloc wr _ b (HR.out.ref.1 b _ hb)⟩)
        have HCALL := Lib.hid hcall
        have HD := Lib.hid hd
        clear hcall hd
        go_wp2_with fail
        refine HCALL.out.mono ?_
        rintro e w3 h2
        obtain rfl := h2.1
        obtain ⟨own2, hR2⟩ := (HR.out.calm ((Mv.refl _ _).alloc (.cells #[.int .i64 xd, .int .i64 xl, .slice ua un uc] 136))).comes HX.out (by rw [← HXD.out]; exact HD.out) h2
        have HR2 := Lib.hid hR2
        clear h2 hR2
        go_wp2_with fail
        go_roundw
        case rel => exact ⟨k + 1, own2, X, by omega, by go_num, HR2.out⟩
        case measure => simp [intOf]; omega
      · have hd' : ((xd : Int) == t) = false := by simp; omega
        have HD := Lib.hid hd
        obtain ⟨m, hm⟩ : ∃ m, m = X.length := ⟨_, rfl⟩
        have hrow := HR.out.row
        rw [← hm] at hXl hrow
        have HROW := Lib.hid hrow
        have HM := Lib.hid hm
        have hcalm := HR.out.calm ((Mv.refl _ _).alloc (.cells #[.int .i64 xd, .int .i64 xl, .slice ua un uc] 136))
        have HCALM := Lib.hid hcalm
        clear hd hrow hm hcalm
        go_wp2_with (at_builtin; refine wpList_append_lies _ rfl _ _ 109 rfl w.heap.size 136 i0 _ 3 40 Try.underlying109 hi0 hz0 hz1 hz2 rfl (by decide) _ m (latCells X) rfl ((HROW.out.alloc _).alloc _) ⟨wr.heap.size + 1, 0, none⟩ 1 1 [.int .i64 xd, .int .i64 xl, .slice ua un uc] rfl rfl (World.news_of_block (cs := #[.int .i64 xd, .int .i64 xl, .slice ua un uc]) (t := 136) (fr := (0, 0)) (by have := heap_alloc_new (wr.alloc (.cells #[.int .i64 xd, .int .i64 xl, .slice ua un uc] 136)) (.cells #[.int .i64 xd, .int .i64 xl, .slice ua un uc] 136); simpa using this)) (by intro v hv; simp at hv; rcases hv with rfl | rfl | rfl <;> rfl) (by omega) (by unfold maxLen; omega) (by omega) (by simp; omega) (wr.heap.size + 1 + 1) (by simp) ?_; intro gg cp w3 hown1 hgrow hat hlt3)
        have hS := HCALM.out.stays HX.out (by rw [← HXD.out]; exact HD.out) (HU.out.keep fun b hb => ⟨hb, Below.heap_alloc wr _ b (HR.out.ref.1 b _ hb)⟩) hgrow (hat.imp id fun h => h.trans (by simp)) (by rw [← HM.out, ← HXD.out, ← HXL2.out]; exact hown1)
        rw [← HM.out] at hS
        have HS2 := Lib.hid hS
        clear hown1 hgrow hat hlt3 hS
        go_wp2_with fail
        go_roundw
        case rel => exact ⟨k + 1, own', _, by omega, by go_num, HS2.out⟩
        case measure => simp [intOf]; omega
    · have hge : ¬ (k : Int) < n := by omega
      obtain rfl : k = n := by omega
      have hfin := HR.out
      rw [HN.out] at hfin
      have HFIN := Lib.hid hfin.finish
      clear hfin
      obtain ⟨ra, rn, rc, rfl⟩ : ∃ ra rn rc, u4 = .slice ra rn rc := by
        rcases HR.out.row.2 with ⟨h1, _⟩ | ⟨g, cap, _, h1, _⟩
        · exact ⟨_, _, _, h1⟩
        · exact ⟨_, _, _, h1⟩
      go_wp2_with fail
      go_end0
      exact HFIN.out
end Go.Proofs.Ytadalodjnbnjkaa
