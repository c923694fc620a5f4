/- The document's net: copied, later. -/
import Derived.Test.YtadalodjnbnjkaaPlay15
import Derived.Test.YtadalodjnbnjkaaPlay04
import Derived.Deep.RegionLaw
namespace Go.Proofs.Ytadalodjnbnjkaa
open Go.RowKit Go.Conc

/-- What copied leaves: the bytes anew. -/
def Copied (w : World) (l : List Int) (e : Ending) (w' : World) : Prop :=
  ∃ v, e = .returned v ∧ Below w.heap.size w w' ∧ ((l = [] ∧ v = .slice none 0 0) ∨ ∃ g cap cur, v = .slice (some ⟨g, 0, none⟩) l.length cap ∧ l.length ≤ cap ∧ w.heap.size ≤ g ∧ w'.heap[g]? = some (.cells cur 5 (0, 0)) ∧ cur.size = cap ∧ ∀ j, j < l.length → cur[j]? = some (.int .u8 (l.getD j 0)))
theorem ub_take {l : List Int} {k : Nat} (hk : k < l.length) : ub (l.take (k + 1)) = ub (l.take k) ++ [.int .u8 (l.getD k 0)] := by
  rw [List.take_succ_eq_append_getElem hk]
  unfold ub
  rw [List.map_append]
  congr 1
  simp [hk]
theorem copied_end {w w' : World} {l : List Int} {v : Value} {n : Nat} (hb : Below w.heap.size w w') (h : w'.ownsRow w.heap.size 5 1 v n (ub l)) (hn : l.length = n) : Copied w l (.returned v) w' := by
  refine ⟨v, rfl, hb, ?_⟩
  rcases h.2 with ⟨rfl, rfl⟩ | ⟨g, cap, cur, rfl, h1, h2, h3, h4, h5, h6⟩
  · exact .inl ⟨List.eq_nil_of_length_eq_zero hn, rfl⟩
  · refine .inr ⟨g, cap, cur, by rw [hn], by omega, h1, h2, by omega, fun j hj => ?_⟩
    have : (cur.toList.take (n * 1))[j]? = some (.int .u8 (l.getD j 0)) := by
      rw [h6]; simp [ub, List.getD_eq_getElem?_getD, hj]
    rw [List.getElem?_take, if_pos (by omega)] at this
    simpa using this

set_option maxRecDepth 100000 in
set_option maxHeartbeats 1600000 in
theorem copied_any (w : World) (a : Option Addr) (n c : Nat) (l : List Int) (h : RowIn w a n l) (hn : n ≤ 1099511627776) : Calls Try.prog 64 #[.slice a n c] w (Copied w l) := by
  obtain ⟨i0, hi0, hz0, hz1, hz2⟩ := info_parts Try.info5
  have HR := Lib.hid h
  clear h
  go_enter Try.func64, Try.ntmps64
  go_wp2_with fail
  go_loopw [3, 4] (fun v i wr => ∃ k : Nat, k ≤ n ∧ i = .int .i64 k ∧ Below w.heap.size w wr ∧ wr.ownsRow w.heap.size 5 1 v k (ub (l.take k))) (fun _ i _ => n - (intOf i).toNat)
  case atStart => exact ⟨0, Nat.zero_le _, rfl, Below.refl _ _, World.ownsRow_nil _ _ _ _⟩
  case round =>
    obtain ⟨k, hk, rfl, hb, hown⟩ := hrel
    have hsz := hb.size
    have HB := Lib.hid hb
    have HOWN := Lib.hid hown
    by_cases hlt : k < n
    · have hkk : (k : Int) < n := by omega
      have hk0 : (0 : Int) ≤ k := by omega
      obtain ⟨b, off, rfl, hc⟩ := HR.out.2.resolve_left (by omega)
      have hc0 := hc k hlt
      have c0 : wr.cell? ⟨b, off + k, none⟩ = some (.int .u8 (l.getD k 0)) := (hb.cell (p := ⟨b, off + k, none⟩) (World.block_lt_of_cell? _ _ hc0)).trans hc0
      have HL : Hid (k < l.length) := by rw [HR.out.1]; exact hlt
      obtain ⟨x, hx⟩ : ∃ x, x = l.getD k 0 := ⟨_, rfl⟩
      rw [← hx] at c0
      have HX := Lib.hid hx
      clear hc hc0 hx hb hown
      go_wp2_with (at_builtin; refine wpList_append_lies _ rfl _ _ 47 rfl w.heap.size 5 i0 _ 1 1 Try.underlying47 hi0 hz0 hz1 hz2 rfl (by decide) _ k (ub (l.take k)) rfl (HOWN.out.alloc _) ⟨wr.heap.size, 0, none⟩ 1 1 [.int .u8 x] rfl rfl (World.news_of_block (cs := #[.int .u8 x]) (t := 5) (fr := (0, 0)) (heap_alloc_new wr _)) (by intro u hu; simp at hu; rcases hu with rfl; rfl) (by omega) (by unfold maxLen; omega) (by omega) (by simp; omega) (wr.heap.size + 1) (by simp) ?_; intro gg cp w3 hown1 hgrow hat hlt3)
      have hb3 : Below w.heap.size w w3 := (HB.out.alloc hsz _).grown hgrow (by simp; omega) (fun b hb => (HOWN.out.lt b hb).1)
      have hown3 : w3.ownsRow w.heap.size 5 1 (.slice (some ⟨gg, 0, none⟩) (k + 1) cp) (k + 1) (ub (l.take (k + 1))) := by rw [ub_take HL.out, ← HX.out]; exact hown1
      have HB3 := Lib.hid hb3
      have HOWN3 := Lib.hid hown3
      clear hown1 hgrow hat hlt3 hb3 hown3
      go_wp2_with fail
      go_roundw
      case rel => exact ⟨k + 1, by omega, by go_num, HB3.out, HOWN3.out⟩
      case measure => simp [intOf]; omega
    · have hge : ¬ (k : Int) < n := by omega
      obtain rfl : k = n := by omega
      clear hb hown
      go_wp2_with fail
      go_ret
      have ho := HOWN.out
      rw [List.take_of_length_le (by rw [HR.out.1]; omega)] at ho
      exact copied_end HB.out ho HR.out.1

theorem Try.info136 : (Try.prog.info? 136).map (fun i => (i.zero, i.size, i.bytes)) = some (some (.agg #[.int .i64 0, .int .i64 0, .slice none 0 0]), 3, 40) := by kernel_rfl
def Rf.late (R : Rf) (i : Nat) (m : List Int) (t : Nat) : Rf := if t = 0 then R.come i m else { R with lates := R.lates ++ [⟨R.time + t, i, m⟩] }
/-- A message is on its way. -/
theorem late_joins {w : World} {own : ROwn} {G i t gg cap : Nat} {R : Rf} {fv : Value} {wb wcap sb scap : Nat} {lv : Value} {cur : Array Value} (h : RParts w own G R fv wb wcap sb scap lv cur) {X : List (Ml × Value)} (hX : X.map Prod.fst = R.lates)
    (hro : ∀ b, lv.ownBlock = some b → own b = some .lates) (hxd : ∀ x ∈ X, DatIs w own x.2 x.1.msg) {m : List Int} {u : Value} (hu : DatIs w own u m) (ht : t ≠ 0) {w3 : World} {o : Obj}
    (hgrow : ((w.alloc o).drew).grownBy w3 lv.ownBlock) (hown : w3.ownsRow 0 136 3 (.slice (some ⟨gg, 0, none⟩) (X.length + 1) cap) (X.length + 1) (latCells X ++ [.int .i64 ((R.time + t : Nat) : Int), .int .i64 i, u])) (hat : lv.ownBlock = some gg ∨ gg = w.heap.size + 1) :
    RLeaves w own G (R.late i m t) (.returned (.tuple #[])) (.returned (.tuple #[])) (w3.setCell ⟨G, 5, none⟩ (.slice (some ⟨gg, 0, none⟩) (X.length + 1) cap)) := by
  have hGl := lt_of_heap h.head.2
  have hne : ∀ b, lv.ownBlock = some b → b ≠ G := fun b hb e => by have := hro b hb; rw [e, h.head.1] at this; cases this
  have hgl := (hown.lt gg rfl).2
  have hs3 := hgrow.size
  have hgG : gg ≠ G := by
    rcases hat with hat | hat
    · exact hne gg hat
    · omega
  have hm3 : Mv own.may w w3 := ((Mv.refl _ _).alloc _).drew.grown hgrow (fun b hb => .inl ⟨by rw [hro b hb]; simp, by rw [hro b hb]; simp⟩)
  have hm : Mv own.may w (w3.setCell ⟨G, 5, none⟩ (.slice (some ⟨gg, 0, none⟩) (X.length + 1) cap)) := Mv.setCell hm3 (.inl ⟨by rw [h.head.1]; simp, by rw [h.head.1]; simp⟩) _
  have hoth : ∀ k, k < w.heap.size → k ≠ G → lv.ownBlock ≠ some k → (w3.setCell ⟨G, 5, none⟩ (.slice (some ⟨gg, 0, none⟩) (X.length + 1) cap)).heap[k]? = w.heap[k]? := fun k hk h1 h2 => by
    rw [heap_setCell_other h1]
    exact (hgrow.block k (by simp [World.drew]; omega) (Ne.symm h2)).trans (Below.heap_alloc w o k hk)
  have hGh : w3.heap[G]? = w.heap[G]? := (hgrow.block G (by simp [World.drew]; omega) (fun e => hne G e.symm rfl)).trans (Below.heap_alloc w o G hGl)
  have hgo : own gg = some .lates ∨ own gg = none := by
    rcases hat with hat | hat
    · exact .inl (hro gg hat)
    · exact .inr (h.lies.none (by omega))
  have ek : ∀ k t, own k = some t → t ≠ .lates → own.put gg .lates k = some t := fun k t hk ht => by
    rw [ROwn.put_other _ _ (fun e => by subst e; rcases hgo with e | e <;> rw [e] at hk <;> cases hk; exact ht rfl)]; exact hk
  have kk : ∀ k t, own k = some t → t ≠ .lates → t ≠ .net → own.put gg .lates k = some t ∧ (w3.setCell ⟨G, 5, none⟩ (.slice (some ⟨gg, 0, none⟩) (X.length + 1) cap)).heap[k]? = w.heap[k]? := fun k t hk h1 h2 =>
    ⟨ek k t hk h1, hoth k (h.lies k t hk) (fun e => by rw [e, h.head.1] at hk; cases hk; exact h2 rfl) (fun e => by rw [hro k e] at hk; cases hk; exact h1 rfl)⟩
  have el : R.late i m t = { R with lates := R.lates ++ [⟨R.time + t, i, m⟩] } := by unfold Rf.late; rw [if_neg ht]
  rw [el]
  refine ⟨rfl, own.put gg .lates, ⟨?_, fv, wb, wcap, sb, scap, .slice (some ⟨gg, 0, none⟩) (X.length + 1) cap, ⟨ek _ _ h.head.1 (by simp), ?_⟩, h.fates.keep fun b hb => kk b _ hb (by simp) (by simp), ⟨(kk wb _ h.warr (by simp) (by simp)).1, h.cap, cur, (kk wb _ h.warr (by simp) (by simp)).2.trans h.arr, fun j hj => ?_⟩,
    h.sarr.keep fun b hb => kk b _ hb (by simp) (by simp), ⟨X ++ [(⟨R.time + t, i, m⟩, u)], ?_, ?_, fun b hb => ?_, fun x hx => ?_⟩⟩, hm, ⟨fun k hk ho => ?_, fun k hk => ek k _ hk (by simp)⟩⟩
  · intro k u hk
    have hsz : (w3.setCell ⟨G, 5, none⟩ (.slice (some ⟨gg, 0, none⟩) (X.length + 1) cap)).heap.size = w3.heap.size := by simp
    by_cases e : k = gg
    · rw [hsz, e]; exact hgl
    · rw [ROwn.put_other _ _ e] at hk
      have := h.lies k u hk
      simp [World.drew] at hs3
      omega
  · rw [heap_setCell_same (hGh.trans h.head.2)]; simp
  · obtain ⟨y, q1, q2⟩ := h.wl j hj
    exact ⟨y, q1, q2.keep fun b t hb ht => kk b t hb (by rcases ht with rfl | rfl <;> simp) (by rcases ht with rfl | rfl <;> simp)⟩
  · rw [List.map_append, hX]; rfl
  · rw [List.length_append, latCells_snoc]
    exact ownsRow_keep hown fun b hb => by simp [Value.ownBlock] at hb; subst hb; exact heap_setCell_other hgG _
  · have : gg = b := by simpa [Value.ownBlock] using hb
    subst this; exact ROwn.put_same _ _ _
  · simp only [List.mem_append, List.mem_singleton] at hx
    rcases hx with hx | rfl
    · exact (hxd x hx).keep fun b hb => kk b _ hb (by simp) (by simp)
    · exact hu.keep fun b hb => kk b _ hb (by simp) (by simp)
  · rcases hat with hat | hat
    · rw [ROwn.put_other _ _ (fun e => by subst e; rw [hro k hat] at ho; cases ho)]; exact ho
    · rw [ROwn.put_other _ _ (by omega)]; exact ho

set_option maxRecDepth 100000 in
set_option maxHeartbeats 1600000 in
theorem rlater_any (w : World) (own : ROwn) (G : Nat) (R : Rf) (i t : Nat) (m : List Int) (u : Value) (h : RefIs w own G R) (hi : i < R.nl) (hu : DatIs w own u m) (ht : t ≤ 65536) (hT : R.time < 549755813888) (hL : R.lates.length < 549755813888) :
    Calls Try.prog 66 #[.pointer (some ⟨G, 0, none⟩), .int .i64 i, u, .int .i64 t] w (RLeaves w own G (R.late i m t) (.returned (.tuple #[]))) := by
  by_cases h0 : t = 0
  · have hc := rcome_any w own G R i m u h hi hu
    have el : R.late i m t = R.come i m := by unfold Rf.late; rw [if_pos h0]
    rw [el]
    have HC := Lib.hid hc
    obtain ⟨ua, uc, rfl, _⟩ := hu
    subst h0
    clear h hc el
    go_enter Try.func66, Try.ntmps66
    go_wp2_with fail
    refine HC.out.mono ?_
    rintro e w' hL
    obtain rfl := hL.1
    have HL := Lib.hid hL
    clear hL
    go_wp2_with fail
    go_end0
    exact HL.out
  · obtain ⟨fv, wb, wcap, sb, scap, lv, cur, hp⟩ := h.parts
    obtain ⟨i0, hi0, hz0, hz1, hz2⟩ := info_parts Try.info136
    obtain ⟨X, hX, hrow, hro, hxd⟩ := hp.lates
    have hXl : X.length < 549755813888 := by rw [← List.length_map (f := Prod.fst), hX]; exact hL
    have c0 : w.cell? ⟨G, 0, none⟩ = some (.int .i64 R.time) := cell_of_heap hp.head.2 0 rfl
    have c5 : w.cell? ⟨G, 5, none⟩ = some lv := cell_of_heap hp.head.2 5 rfl
    have f5 : w.frozen? ⟨G, 5, none⟩ = false := free_of_heap hp.head.2 5
    have hGl := lt_of_heap hp.head.2
    have hne : lv.ownBlock ≠ some G := fun e => by have := hro G e; rw [hp.head.1] at this; cases this
    have HP := Lib.hid hp
    have HX := Lib.hid hX
    have HROW := Lib.hid hrow
    have HRO := Lib.hid hro
    have HXD := Lib.hid hxd
    have HU := Lib.hid hu
    have HNE := Lib.hid hne
    obtain ⟨ua, uc, rfl, _⟩ := hu
    obtain ⟨un, hun⟩ : ∃ n, n = m.length := ⟨_, rfl⟩
    rw [← hun] at HU ⊢
    obtain ⟨T, hTT⟩ : ∃ T, T = R.time := ⟨_, rfl⟩
    rw [← hTT] at c0 hT
    have HTT := Lib.hid hTT
    have ht0 : ((t : Int) == 0) = false := by simp; omega
    clear h hp hX hrow hro hxd hne hun hTT
    go_enter Try.func66, Try.ntmps66
    go_wp2_with fail
    have hwrap : IntKind.i64.wrap ((T : Int) + t) = (T : Int) + t := IntWalk.i64_in _ (by omega)
    go_region_law (refine step_append_lies _ (by rfl) _ _ _ (by rfl) 0 136 i0 _ 3 40 Try.underlying109 hi0 hz0 hz1 hz2 rfl (by omega) lv X.length (latCells X) (by rfl) ((HROW.out.alloc _).drew) ⟨w.heap.size, 0, none⟩ 1 1 [.int .i64 ((T : Int) + t), .int .i64 i, .slice ua un uc] (by rfl) (by rfl) (World.news_of_block (cs := #[.int .i64 ((T : Int) + t), .int .i64 i, .slice ua un uc]) (t := 136) (fr := (0, 0)) (heap_alloc_new w _)) (by simp [Value.oneCell']) (by omega) (by unfold maxLen; omega) (by omega) (by omega) (w.heap.size + 1) (by simp) ?_; intro gg cap w3 hown hgrow hat hlt1; have hB : w3.heap[G]? = w.heap[G]? := (hgrow.block _ (by simp; omega) (Ne.symm HNE.out)).trans (Below.heap_alloc w _ _ hGl); have q5 : w3.cell? ⟨G, 5, none⟩ = some lv := (World.cell?_of_block (w := w) hB).trans c5; have qf : w3.frozen? ⟨G, 5, none⟩ = false := (World.frozen?_of_block (w := w) hB).trans f5; have q0 : w3.cell? ⟨G, 0, none⟩ = some (.int .i64 T) := (World.cell?_of_block (w := w) (a := ⟨G, 0, none⟩) hB).trans c0; clear hB)
    all_goals
      have hL := late_joins (i := i) (t := t) HP.out HX.out HRO.out HXD.out HU.out h0 hgrow (by rw [← HTT.out, Int.natCast_add]; exact hown) hat
      have HL := Lib.hid hL
      clear hown hgrow hat hlt1 hL
      go_wp2_with fail
      go_end0
      exact HL.out
end Go.Proofs.Ytadalodjnbnjkaa

/- The document's net: Send, its parts. -/
namespace Go.Proofs.Ytadalodjnbnjkaa
open Go.RowKit Go.Conc

def Rf.took (R : Rf) : Rf := { R with sent := R.sent + 1 }
def Rf.fateOf (R : Rf) : Int × Int := R.fates.getD R.sent (0, 0)
def Rf.fated (R : Rf) (i : Nat) (m : List Int) (f : Int × Int) : Rf :=
  if f.1 = 0 then R.come i m
  else if f.1 = 1 then R
  else if f.1 = 2 then (R.come i m).late i m f.2.toNat
  else if f.1 = 3 then R.late i m f.2.toNat
  else if f.1 = 4 then R.come i (m.take f.2.toNat)
  else R.come i (if f.2.toNat < m.length then spoilt m f.2.toNat else m)
def Rf.send (R : Rf) (i : Nat) (m : List Int) : Rf := R.took.fated i m R.fateOf

theorem RGrows.may {n : Nat} {own own' : ROwn} (h : RGrows n own own') {b : Nat} (hb : b < n) (hm : own'.may b) : own.may b := ⟨fun e => hm.1 (h.1 b hb e), fun e => hm.2 (h.2 b e)⟩
theorem RLeaves.after {w w1 w2 : World} {own own1 : ROwn} {G : Nat} {R2 : Rf} {e₀ e : Ending} (hm : Mv own.may w w1) (hg : RGrows w.heap.size own own1) (h : RLeaves w1 own1 G R2 e₀ e w2) : RLeaves w own G R2 e₀ e w2 := by
  obtain ⟨he, own2, h1, h2, h3⟩ := h
  exact ⟨he, own2, h1, hm.trans' h2 (fun b hb hh => hg.may hb hh), hg.trans h3 hm.size⟩

/-- Bytes of one's own that the net does not know yet. -/
def Fresh (n0 : Nat) (w : World) (own : ROwn) (v : Value) (m : List Int) : Prop :=
  (m = [] ∧ v = .slice none 0 0) ∨ ∃ g cap cur, v = .slice (some ⟨g, 0, none⟩) m.length cap ∧ m.length ≤ cap ∧ n0 ≤ g ∧ own g = none ∧ w.heap[g]? = some (.cells cur 5 (0, 0)) ∧ cur.size = cap ∧ ∀ j, j < m.length → cur[j]? = some (.int .u8 (m.getD j 0))
theorem Fresh.row {n0 : Nat} {w : World} {own : ROwn} {v : Value} {m : List Int} (h : Fresh n0 w own v m) : ∃ a c, v = .slice a m.length c ∧ RowIn w a m.length m := by
  rcases h with ⟨rfl, rfl⟩ | ⟨g, cap, cur, rfl, _, _, _, h1, _, h2⟩
  · exact ⟨none, 0, rfl, rfl, .inl rfl⟩
  · exact ⟨_, cap, rfl, rfl, .inr ⟨g, 0, rfl, fun j hj => by rw [Nat.zero_add]; exact cell_of_heap h1 j (h2 j hj)⟩⟩
theorem Fresh.of_copied {n0 : Nat} {w w' : World} {own : ROwn} {m : List Int} {v : Value} (hl : RLies w own) (hn : n0 ≤ w.heap.size) (h : (m = [] ∧ v = .slice none 0 0) ∨ ∃ g cap cur, v = .slice (some ⟨g, 0, none⟩) m.length cap ∧ m.length ≤ cap ∧ w.heap.size ≤ g ∧ w'.heap[g]? = some (.cells cur 5 (0, 0)) ∧ cur.size = cap ∧ ∀ j, j < m.length → cur[j]? = some (.int .u8 (m.getD j 0))) : Fresh n0 w' own v m := by
  rcases h with h | ⟨g, cap, cur, h1, h2, h3, h4, h5, h6⟩
  · exact .inl h
  · exact .inr ⟨g, cap, cur, h1, h2, by omega, hl.none h3, h4, h5, h6⟩
/-- The net takes them in. -/
theorem Fresh.adopt {n0 : Nat} {w : World} {own : ROwn} {G : Nat} {R : Rf} {v : Value} {m : List Int} (h : Fresh n0 w own v m) (hR : RefIs w own G R) : ∃ own1, RefIs w own1 G R ∧ DatIs w own1 v m ∧ RGrows n0 own own1 ∧ ∀ b, own1 b = own b ∨ own1 b = some .dat := by
  rcases h with ⟨rfl, rfl⟩ | ⟨g, cap, cur, rfl, h1, h2, h3, h4, h5, h6⟩
  · exact ⟨own, hR, ⟨none, 0, rfl, ⟨rfl, .inl rfl⟩, fun h => absurd rfl h⟩, RGrows.refl _ _, fun _ => .inl rfl⟩
  · refine ⟨own.put g .dat, hR.adopt h3 (lt_of_heap h4), ⟨some ⟨g, 0, none⟩, cap, rfl, ⟨rfl, .inr ⟨g, 0, rfl, fun j hj => by rw [Nat.zero_add]; exact cell_of_heap h4 j (h6 j hj)⟩⟩, fun _ ad ha => by cases ha; exact ROwn.put_same _ _ _⟩, ⟨fun b hb ho => ?_, fun b hb => ?_⟩, fun b => ?_⟩
    · rw [ROwn.put_other _ _ (by omega)]; exact ho
    · rw [ROwn.put_other _ _ (fun e => by subst e; rw [h3] at hb; cases hb)]; exact hb
    · by_cases e : b = g
      · subst e; exact .inr (ROwn.put_same _ _ _)
      · exact .inl (ROwn.put_other _ _ e)
theorem calm_of {own own1 : ROwn} {b : Nat} (h : own1 b = own b ∨ own1 b = some .dat) (hn : own b = none) : ¬ own1.may b := fun hm => by
  rcases h with h | h
  · exact hm.1 (h.trans hn)
  · exact hm.2 h
theorem RowIn.part {w : World} {a : Option Addr} {n x : Nat} {l : List Int} (h : RowIn w a n l) (hx : x ≤ n) : RowIn w a x (l.take x) := by
  refine ⟨by rw [List.length_take, h.1]; omega, ?_⟩
  by_cases h0 : x = 0
  · exact .inl h0
  · obtain ⟨b, off, rfl, hc⟩ := h.2.resolve_left (by omega)
    refine .inr ⟨b, off, rfl, fun j hj => ?_⟩
    rw [hc j (by omega), List.getD_eq_getElem?_getD, List.getD_eq_getElem?_getD, List.getElem?_take, if_pos hj]
/-- One's own bytes are written. -/
theorem RefIs.write {w w' : World} {own : ROwn} {G g : Nat} {R : Rf} (h : RefIs w own G R) (hg : own g = none) (hm : Mv (fun b => b = g) w w') : RefIs w' own G R :=
  h.keep (h.1.mono hm.size) fun b t hb => ⟨hb, hm.block b (h.1 b t hb) (fun e => by rw [e, hg] at hb; cases hb)⟩

/-- Behind the fate and the copy. -/
def SendMid (w : World) (own : ROwn) (G : Nat) (R : Rf) (m : List Int) (f : Int × Int) (fv dv : Value) (wx : World) : Prop :=
  ∃ fb, fv = .pointer (some ⟨fb, 0, none⟩) ∧ RefIs wx own G R ∧ Mv own.may w wx ∧ wx.heap[fb]? = some (.cells #[.int .i64 f.1, .int .i64 f.2] 96 (0, 0)) ∧ own fb = none ∧ w.heap.size ≤ fb ∧ Fresh w.heap.size wx own dv m
/-- The message itself, that came in. -/
def MsgOf (w : World) (own : ROwn) (a : Option Addr) (n : Nat) (m : List Int) : Prop := RowIn w a n m ∧ (n ≠ 0 → ∀ ad, a = some ad → ad.block < w.heap.size ∧ own ad.block = none)
theorem MsgOf.row {w w' : World} {own : ROwn} {a : Option Addr} {n : Nat} {m : List Int} (h : MsgOf w own a n m) (hm : Mv own.may w w') : RowIn w' a n m := by
  by_cases h0 : n = 0
  · exact ⟨h.1.1, .inl h0⟩
  · exact h.1.keep fun ad ha => hm.block _ (h.2 h0 ad ha).1 (fun hh => hh.1 (h.2 h0 ad ha).2)

/-- The count of what was sent goes up. -/
theorem RParts.took {w w1 : World} {own : ROwn} {G : Nat} {R : Rf} {fv : Value} {wb wcap sb scap : Nat} {lv : Value} {cur : Array Value} (h : RParts w own G R fv wb wcap sb scap lv cur) (hm : Mv (fun _ => False) w w1) :
    RefIs (w1.setCell ⟨G, 2, none⟩ (.int .i64 ((R.sent : Int) + 1))) own G R.took ∧ Mv own.may w (w1.setCell ⟨G, 2, none⟩ (.int .i64 ((R.sent : Int) + 1))) := by
  have hm2 : Mv own.may w (w1.setCell ⟨G, 2, none⟩ (.int .i64 ((R.sent : Int) + 1))) := Mv.setCell (hm.mono fun _ _ hh => hh.elim) (.inl ⟨by rw [h.head.1]; simp, by rw [h.head.1]; simp⟩) _
  refine ⟨?_, hm2⟩
  have k : ∀ b t, own b = some t → t ≠ .net → own b = some t ∧ (w1.setCell ⟨G, 2, none⟩ (.int .i64 ((R.sent : Int) + 1))).heap[b]? = w.heap[b]? := fun b t hb ht => ⟨hb, by
    rw [heap_setCell_other (fun e => by rw [e, h.head.1] at hb; cases hb; exact ht rfl)]
    exact hm.block b (h.lies b t hb) id⟩
  refine ⟨h.lies.mono hm2.size, fv, wb, wcap, sb, scap, lv, ⟨h.head.1, ?_⟩, h.fates.keep fun b hb => k b _ hb (by simp), ⟨h.warr, h.cap, cur, (k wb _ h.warr (by simp)).2.trans h.arr, fun i hi => ?_⟩, h.sarr.keep fun b hb => k b _ hb (by simp), h.lates.keep fun b t hb ht => k b t hb (by rcases ht with rfl | rfl <;> simp)⟩
  · rw [heap_setCell_same ((hm.block G (lt_of_heap h.head.2) id).trans h.head.2)]
    simp [Rf.took]
  · obtain ⟨u, q1, q2⟩ := h.wl i hi
    exact ⟨u, q1, q2.keep fun b t hb ht => k b t hb (by rcases ht with rfl | rfl <;> simp)⟩

section
variable {w : World} {own : ROwn} {G : Nat} {R : Rf}
theorem RefIs.shutCell (h : RefIs w own G R) {i : Nat} (hi : i < R.nl) : ∃ sb scap, w.cell? ⟨G, 4, none⟩ = some (.slice (some ⟨sb, 0, none⟩) R.nl scap) ∧ w.cell? ⟨sb, i, none⟩ = some (.bool (R.shut i)) := by
  obtain ⟨fv, wb, wcap, sb, scap, lv, cur, hp⟩ := h.parts
  obtain ⟨_, _, sc, s1, s2⟩ := hp.sarr
  exact ⟨sb, scap, cell_of_heap hp.head.2 4 rfl, cell_of_heap s1 i (s2 i hi)⟩

theorem rSend_noLane (h : RefIs w own G R) (x : Int) (v : Value) (hx : x < 0 ∨ R.nl ≤ x) : Calls Try.prog 56 #[.pointer (some ⟨G, 0, none⟩), .int .i64 x, v] w fun e w' => e = .returned (.int .i64 192) ∧ w = w' := by
  have hi := is_any h x
  have e : decide (0 ≤ x ∧ x < R.nl) = false := by simp; omega
  rw [e] at hi
  have HI := Lib.hid hi
  clear h hi e
  go_enter Try.func56, Try.ntmps56
  go_wp2_with (go_at_call 63; refine HI.out.mono ?_; rintro e w' ⟨rfl, rfl⟩)
  go_ret
  exact ⟨rfl, rfl⟩
theorem rSend_shut (h : RefIs w own G R) (i : Nat) (v : Value) (hi : i < R.nl) (hs : R.shut i = true) : Calls Try.prog 56 #[.pointer (some ⟨G, 0, none⟩), .int .i64 i, v] w fun e w' => e = .returned (.int .i64 191) ∧ w = w' := by
  have his := is_any h i
  have e : decide ((0 : Int) ≤ i ∧ (i : Int) < R.nl) = true := by simp; exact hi
  rw [e] at his
  have HI := Lib.hid his
  obtain ⟨sb, scap, c1, c2⟩ := h.shutCell hi
  rw [hs] at c2
  obtain ⟨nl, hnl⟩ : ∃ n, n = R.nl := ⟨_, rfl⟩
  rw [← hnl] at hi c1
  have hii : (i : Int) < nl := by omega
  clear h his e hnl hs
  go_enter Try.func56, Try.ntmps56
  go_wp2_with (go_at_call 63; refine HI.out.mono ?_; rintro e w' ⟨rfl, rfl⟩)
  go_ret
  exact ⟨rfl, rfl⟩
theorem rSend_long (h : RefIs w own G R) (i : Nat) (a : Option Addr) (n c : Nat) (hi : i < R.nl) (hs : R.shut i = false) (hn : 1048576 < n) : Calls Try.prog 56 #[.pointer (some ⟨G, 0, none⟩), .int .i64 i, .slice a n c] w fun e w' => e = .returned (.int .i64 2) ∧ w = w' := by
  have his := is_any h i
  have e : decide ((0 : Int) ≤ i ∧ (i : Int) < R.nl) = true := by simp; exact hi
  rw [e] at his
  have HI := Lib.hid his
  obtain ⟨sb, scap, c1, c2⟩ := h.shutCell hi
  rw [hs] at c2
  obtain ⟨nl, hnl⟩ : ∃ n, n = R.nl := ⟨_, rfl⟩
  rw [← hnl] at hi c1
  have hii : (i : Int) < nl := by omega
  have hnn : (1048576 : Int) < n := by omega
  have hnn2 : decide ((n : Int) > 1048576) = true := by simp; omega
  clear h his e hnl hs
  go_enter Try.func56, Try.ntmps56
  go_wp2_with (go_at_call 63; refine HI.out.mono ?_; rintro e w' ⟨rfl, rfl⟩)
  go_ret
  exact ⟨rfl, rfl⟩
end
end Go.Proofs.Ytadalodjnbnjkaa

/- The document's net: next, Close, Waiting. -/
namespace Go.Proofs.Ytadalodjnbnjkaa
open Go.RowKit Go.Conc

def nextF (l : List Ml) (L : Nat) : Nat := l.foldl (fun acc x => if x.due < acc then x.due else acc) L
theorem nextF_snoc (l : List Ml) (x : Ml) (L : Nat) : nextF (l ++ [x]) L = if x.due < nextF l L then x.due else nextF l L := by unfold nextF; rw [List.foldl_append]; rfl
theorem nextF_le : ∀ (l : List Ml) (L : Nat), nextF l L ≤ L
  | [], L => Nat.le_refl L
  | x :: l, L => by
    show nextF l (if x.due < L then x.due else L) ≤ L
    by_cases h : x.due < L
    · rw [if_pos h]; have := nextF_le l x.due; omega
    · rw [if_neg h]; exact nextF_le l L

theorem latCells_at {X : List (Ml × Value)} : ∀ {k : Nat} {x : Ml × Value}, X[k]? = some x → (latCells X)[k * 3]? = some (.int .i64 x.1.due) ∧ (latCells X)[k * 3 + 1]? = some (.int .i64 x.1.lane) ∧ (latCells X)[k * 3 + 2]? = some x.2 := by
  induction X with
  | nil => intro k x h; simp at h
  | cons y X ih =>
    intro k x h
    have e : latCells (y :: X) = [.int .i64 y.1.due, .int .i64 y.1.lane, y.2] ++ latCells X := rfl
    rw [e]
    rcases k with _ | k
    · obtain rfl : y = x := by simpa using h
      exact ⟨rfl, rfl, rfl⟩
    · have := ih (k := k) (x := x) (by simpa using h)
      have e3 : ∀ j, ([Value.int .i64 y.1.due, .int .i64 y.1.lane, y.2] ++ latCells X)[(k + 1) * 3 + j]? = (latCells X)[k * 3 + j]? := fun j => by
        rw [List.getElem?_append_right (by simp; omega)]
        congr 1
        simp; omega
      exact ⟨(e3 0).trans this.1, (e3 1).trans this.2.1, (e3 2).trans this.2.2⟩
/-- What is on its way, cell by cell. -/
theorem RLatesIs.shape {w : World} {own : ROwn} {lv : Value} {L : List Ml} (h : RLatesIs w own lv L) : ∃ la lc, lv = .slice la L.length lc ∧ ∀ k x, L[k]? = some x → ∃ g u, la = some ⟨g, 0, none⟩ ∧ w.cell? ⟨g, k * 3, none⟩ = some (.int .i64 x.due) ∧ w.cell? ⟨g, k * 3 + 1, none⟩ = some (.int .i64 x.lane) ∧ w.cell? ⟨g, k * 3 + 2, none⟩ = some u ∧ DatIs w own u x.msg := by
  obtain ⟨X, rfl, h2, h3, h4⟩ := h
  rcases h2.2 with ⟨rfl, hz⟩ | ⟨g, cap, cur, rfl, _⟩
  · have : X = [] := List.eq_nil_of_length_eq_zero hz
    subst this
    exact ⟨none, 0, rfl, fun k x hx => by simp at hx⟩
  · have hc := h2.cells (g := g) rfl
    have e1 : ∀ i, (⟨g, 0, none⟩ : Addr).add i = ⟨g, i, none⟩ := fun i => by unfold Addr.add; split <;> simp_all
    refine ⟨_, cap, by rw [List.length_map], fun k x hx => ?_⟩
    rw [List.getElem?_map, Option.map_eq_some_iff] at hx
    obtain ⟨y, hy, rfl⟩ := hx
    obtain ⟨q1, q2, q3⟩ := latCells_at hy
    have r1 := hc _ _ q1
    have r2 := hc _ _ q2
    have r3 := hc _ _ q3
    rw [e1] at r1 r2 r3
    exact ⟨g, y.2, rfl, r1, r2, r3, h4 y (List.mem_of_getElem? hy)⟩

set_option maxRecDepth 100000 in
set_option maxHeartbeats 800000 in
theorem next_any (w : World) (own : ROwn) (G : Nat) (R : Rf) (L : Nat) (h : RefIs w own G R) (hL : R.lates.length < 549755813888) :
    Calls Try.prog 61 #[.pointer (some ⟨G, 0, none⟩), .int .i64 L] w fun e w' => e = .returned (.int .i64 (nextF R.lates L : Nat)) ∧ w = w' := by
  obtain ⟨fv, wb, wcap, sb, scap, lv, cur, hp⟩ := h.parts
  obtain ⟨la, lc, rfl, hcells⟩ := hp.lates.shape
  have c5 : w.cell? ⟨G, 5, none⟩ = some (.slice la R.lates.length lc) := cell_of_heap hp.head.2 5 rfl
  have HC := Lib.hid hcells
  obtain ⟨n, hn⟩ : ∃ n, n = R.lates.length := ⟨_, rfl⟩
  rw [← hn] at c5 hL
  have HN := Lib.hid hn
  clear h hp hcells hn
  go_enter Try.func61, Try.ntmps61
  go_wp2_with fail
  go_loop [1, 5] (fun lv i => ∃ k : Nat, k ≤ n ∧ i = .int .i64 k ∧ lv = .int .i64 (nextF (R.lates.take k) L : Nat)) (fun _ i => n - (intOf i).toNat)
  case atStart => exact ⟨0, Nat.zero_le _, rfl, rfl⟩
  case round =>
    obtain ⟨k, hk, rfl, rfl⟩ := hrel
    by_cases hlt : k < n
    · have hkk : (k : Int) < n := by omega
      have hk0 : (0 : Int) ≤ k := by omega
      obtain ⟨x, hx⟩ : ∃ y, R.lates[k]? = some y := ⟨_, List.getElem?_eq_getElem (by rw [← HN.out]; exact hlt)⟩
      obtain ⟨g, u, rfl, q0, _, _, _⟩ := HC.out k x hx
      have hsn : R.lates.take (k + 1) = R.lates.take k ++ [x] := by
        have hk := List.getElem?_eq_some_iff.1 hx
        rw [List.take_succ_eq_append_getElem hk.1, hk.2]
      have hns := nextF_snoc (R.lates.take k) x L
      rw [← hsn] at hns
      obtain ⟨xd, hxd⟩ : ∃ v, v = x.due := ⟨_, rfl⟩
      rw [← hxd] at q0 hns
      obtain ⟨acc, hacc⟩ : ∃ v, v = nextF (R.lates.take k) L := ⟨_, rfl⟩
      rw [← hacc] at hns ⊢
      have HNS := Lib.hid hns
      clear hx hsn hns hxd hacc
      by_cases hd : xd < acc
      · have hd' : (xd : Int) < acc := by omega
        go_wp2_with fail
        go_round
        case rel => exact ⟨k + 1, by omega, by go_num, by rw [HNS.out, if_pos hd]⟩
        case measure => simp [intOf]; omega
      · have hd' : ¬ (xd : Int) < acc := by omega
        go_wp2_with fail
        go_round
        case rel => exact ⟨k + 1, by omega, by go_num, by rw [HNS.out, if_neg hd]⟩
        case measure => simp [intOf]; omega
    · have hge : ¬ (k : Int) < n := by omega
      obtain rfl : k = n := by omega
      go_wp2_with fail
      go_ret
      refine ⟨?_, rfl⟩
      rw [List.take_of_length_le (by rw [← HN.out]; omega)]
      rfl

section
variable {w : World} {own : ROwn} {G : Nat} {R : Rf}
theorem is_yes (h : RefIs w own G R) {i : Nat} (hi : i < R.nl) : Calls Try.prog 63 #[.pointer (some ⟨G, 0, none⟩), .int .i64 i] w fun e w' => e = .returned (.bool true) ∧ w = w' := by
  have his := is_any h i
  have e : decide ((0 : Int) ≤ i ∧ (i : Int) < R.nl) = true := by simp; exact hi
  rw [e] at his
  exact his
theorem is_no (h : RefIs w own G R) {x : Int} (hx : x < 0 ∨ R.nl ≤ x) : Calls Try.prog 63 #[.pointer (some ⟨G, 0, none⟩), .int .i64 x] w fun e w' => e = .returned (.bool false) ∧ w = w' := by
  have his := is_any h x
  have e : decide (0 ≤ x ∧ x < R.nl) = false := by simp; omega
  rw [e] at his
  exact his

theorem rWaiting_no (h : RefIs w own G R) (x : Int) (hx : x < 0 ∨ R.nl ≤ x) : Calls Try.prog 55 #[.pointer (some ⟨G, 0, none⟩), .int .i64 x] w fun e w' => e = .returned (.tuple #[.int .i64 0, .int .i64 192]) ∧ w = w' := by
  have HI := Lib.hid (is_no h hx)
  clear h
  go_enter Try.func55, Try.ntmps55
  go_wp2_with (go_at_call 63; refine HI.out.mono ?_; rintro e w' ⟨rfl, rfl⟩)
  go_ret2
  exact ⟨rfl, rfl⟩
theorem rWaiting_ok (h : RefIs w own G R) (i : Nat) (hi : i < R.nl) : Calls Try.prog 55 #[.pointer (some ⟨G, 0, none⟩), .int .i64 i] w fun e w' => e = .returned (.tuple #[.int .i64 (R.waits i).length, .int .i64 0]) ∧ w = w' := by
  have HI := Lib.hid (is_yes h hi)
  obtain ⟨fv, wb, wcap, sb, scap, lv, cur, hp⟩ := h.parts
  have c3 := hp.cell3
  obtain ⟨u, hu, hw⟩ := hp.wl i hi
  have cw : w.cell? ⟨wb, i, none⟩ = some u := cell_of_heap hp.arr i hu
  obtain ⟨ua, uc, rfl⟩ : ∃ ua uc, u = .slice ua (R.waits i).length uc := by
    rcases hw with ⟨rfl, hn⟩ | ⟨b, off, cap, bc, rfl, _⟩
    · exact ⟨none, 0, by rw [hn]; rfl⟩
    · exact ⟨_, cap, rfl⟩
  obtain ⟨n, hn⟩ : ∃ n, n = (R.waits i).length := ⟨_, rfl⟩
  rw [← hn] at cw ⊢
  obtain ⟨nl, hnl⟩ : ∃ n, n = R.nl := ⟨_, rfl⟩
  rw [← hnl] at hi c3
  have hii : (i : Int) < nl := by omega
  clear h hp hu hw hn hnl
  go_enter Try.func55, Try.ntmps55
  go_wp2_with (go_at_call 63; refine HI.out.mono ?_; rintro e w' ⟨rfl, rfl⟩)
  go_ret2
  exact ⟨rfl, rfl⟩

def Rf.close (R : Rf) (i : Nat) : Rf := { R with shut := fun j => if j = i then true else R.shut j }
theorem rClose_no (h : RefIs w own G R) (x : Int) (hx : x < 0 ∨ R.nl ≤ x) : Calls Try.prog 54 #[.pointer (some ⟨G, 0, none⟩), .int .i64 x] w fun e w' => e = .returned (.int .i64 192) ∧ w = w' := by
  have HI := Lib.hid (is_no h hx)
  clear h
  go_enter Try.func54, Try.ntmps54
  go_wp2_with (go_at_call 63; refine HI.out.mono ?_; rintro e w' ⟨rfl, rfl⟩)
  go_ret
  exact ⟨rfl, rfl⟩
theorem rClose_shut (h : RefIs w own G R) (i : Nat) (hi : i < R.nl) (hs : R.shut i = true) : Calls Try.prog 54 #[.pointer (some ⟨G, 0, none⟩), .int .i64 i] w fun e w' => e = .returned (.int .i64 191) ∧ w = w' := by
  have HI := Lib.hid (is_yes h hi)
  obtain ⟨sb, scap, c1, c2⟩ := h.shutCell hi
  rw [hs] at c2
  obtain ⟨nl, hnl⟩ : ∃ n, n = R.nl := ⟨_, rfl⟩
  rw [← hnl] at hi c1
  have hii : (i : Int) < nl := by omega
  clear h hnl hs
  go_enter Try.func54, Try.ntmps54
  go_wp2_with (go_at_call 63; refine HI.out.mono ?_; rintro e w' ⟨rfl, rfl⟩)
  go_ret
  exact ⟨rfl, rfl⟩
theorem rClose_ok (h : RefIs w own G R) (i : Nat) (hi : i < R.nl) (hs : R.shut i = false) : Calls Try.prog 54 #[.pointer (some ⟨G, 0, none⟩), .int .i64 i] w (RLeaves w own G (R.close i) (.returned (.int .i64 0))) := by
  have HI := Lib.hid (is_yes h hi)
  obtain ⟨fv, wb, wcap, sb, scap, lv, cur, hp⟩ := h.parts
  obtain ⟨so, scl, sc, s1, s2⟩ := hp.sarr
  have c1 : w.cell? ⟨G, 4, none⟩ = some (.slice (some ⟨sb, 0, none⟩) R.nl scap) := cell_of_heap hp.head.2 4 rfl
  have c2 : w.cell? ⟨sb, i, none⟩ = some (.bool false) := by
    have := cell_of_heap s1 i (s2 i hi)
    rw [hs] at this; exact this
  have f2 : w.frozen? ⟨sb, i, none⟩ = false := free_of_heap s1 i
  have hsbG : sb ≠ G := fun e => by rw [e, hp.head.1] at so; cases so
  have hm : Mv own.may w (w.setCell ⟨sb, i, none⟩ (.bool true)) := (Mv.refl _ _).setCell (.inl ⟨by rw [so]; simp, by rw [so]; simp⟩) _
  have hres : RLeaves w own G (R.close i) (.returned (.int .i64 0)) (.returned (.int .i64 0)) (w.setCell ⟨sb, i, none⟩ (.bool true)) := by
    have k : ∀ b t, own b = some t → t ≠ .sarr → own b = some t ∧ (w.setCell ⟨sb, i, none⟩ (.bool true)).heap[b]? = w.heap[b]? := fun b t hb ht => ⟨hb, heap_setCell_other (fun e => by rw [e, so] at hb; cases hb; exact ht rfl) _⟩
    refine ⟨rfl, own, ⟨hp.lies.mono hm.size, fv, wb, wcap, sb, scap, lv, ⟨hp.head.1, (k _ _ hp.head.1 (by simp)).2.trans hp.head.2⟩, hp.fates.keep fun b hb => k b _ hb (by simp), ⟨hp.warr, hp.cap, cur, (k wb _ hp.warr (by simp)).2.trans hp.arr, fun j hj => ?_⟩, ⟨so, scl, _, heap_setCell_same s1 _, fun j hj => ?_⟩, hp.lates.keep fun b t hb ht => k b t hb (by rcases ht with rfl | rfl <;> simp)⟩, hm, RGrows.refl _ _⟩
    · obtain ⟨u, q1, q2⟩ := hp.wl j hj
      exact ⟨u, q1, q2.keep fun b t hb ht => k b t hb (by rcases ht with rfl | rfl <;> simp)⟩
    · show _ = some (Value.bool (if j = i then true else R.shut j))
      by_cases e : j = i
      · subst e
        rw [Array.getElem?_setIfInBounds_self, if_pos (Array.getElem?_eq_some_iff.1 (s2 j hj)).1, if_pos rfl]
      · rw [Array.getElem?_setIfInBounds_ne (Ne.symm e), if_neg e]; exact s2 j hj
  have HRES := Lib.hid hres
  obtain ⟨nl, hnl⟩ : ∃ n, n = R.nl := ⟨_, rfl⟩
  rw [← hnl] at hi c1
  have hii : (i : Int) < nl := by omega
  clear h hp s1 s2 hs hnl hm hres so
  go_enter Try.func54, Try.ntmps54
  go_wp2_with (go_at_call 63; refine HI.out.mono ?_; rintro e w' ⟨rfl, rfl⟩)
  go_ret
  exact HRES.out
end
end Go.Proofs.Ytadalodjnbnjkaa
