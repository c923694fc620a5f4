/- put: a message that must come joins the list at its place. -/
import Derived.Test.YtadalodjnbnjkaaAhead
import Derived.Deep.RegionHeld3
namespace Go.Proofs.Ytadalodjnbnjkaa
open Go.RowKit Go.Conc
variable {B : Nat}

def cmCells (L : List Cm) : List Value := L.flatMap Cm.cells
theorem cmCells_snoc (L : List Cm) (x : Cm) : cmCells (L ++ [x]) = cmCells L ++ x.cells := by simp [cmCells]
def putStep (c : Cm) (S : List Cm × Bool) (x : Cm) : List Cm × Bool := if aheadB c x && !S.2 then (S.1 ++ [c] ++ [x], true) else (S.1 ++ [x], S.2)
def putK (L : List Cm) (c : Cm) (k : Nat) : List Cm × Bool := (L.take k).foldl (putStep c) ([], false)
def putF (L : List Cm) (c : Cm) : List Cm := if (putK L c L.length).2 then (putK L c L.length).1 else (putK L c L.length).1 ++ [c]
theorem putK_succ {L : List Cm} {c x : Cm} {k : Nat} (h : L[k]? = some x) : putK L c (k + 1) = putStep c (putK L c k) x := by
  have hk := List.getElem?_eq_some_iff.1 h
  unfold putK
  rw [List.take_succ_eq_append_getElem hk.1, hk.2, List.foldl_append]
  rfl
theorem putK_len (L : List Cm) (c : Cm) : ∀ k, k ≤ L.length → (putK L c k).1.length ≤ k + 1 ∧ ((putK L c k).2 = false → (putK L c k).1.length = k)
  | 0, _ => by simp [putK]
  | k + 1, h => by
    obtain ⟨x, hx⟩ : ∃ x, L[k]? = some x := ⟨_, List.getElem?_eq_getElem (by omega)⟩
    obtain ⟨h1, h2⟩ := putK_len L c k (by omega)
    rw [putK_succ hx]
    unfold putStep
    split
    · rename_i hh
      simp only [Bool.and_eq_true, Bool.not_eq_true'] at hh
      have := h2 hh.2
      simp; omega
    · simp only [List.length_append, List.length_cons, List.length_nil]
      exact ⟨by omega, fun h => by have := h2 h; omega⟩

/-- The list in memory. -/
def CmIn (B : Nat) (w : World) (v : Value) (L : List Cm) : Prop :=
  ∃ ad cap, v = .slice ad L.length cap ∧ (∀ i x, L[i]? = some x → ∃ g, ad = some ⟨g, 0, none⟩ ∧ w.cell? ⟨g, i * 4, none⟩ = some (.int .i64 x.at') ∧ w.cell? ⟨g, i * 4 + 1, none⟩ = some (.int .i64 x.direct) ∧
    w.cell? ⟨g, i * 4 + 2, none⟩ = some (.int .i64 x.number) ∧ w.cell? ⟨g, i * 4 + 3, none⟩ = some (.slice x.a x.n x.c)) ∧ B ≤ w.heap.size ∧ ∀ b, v.ownBlock = some b → B ≤ b
theorem CmIn.still {w w' : World} {v : Value} {L : List Cm} (h : CmIn B w v L) (hb : Below w.heap.size w w') : CmIn B w' v L := by
  obtain ⟨ad, cap, hv, hc, hs, ho⟩ := h
  refine ⟨ad, cap, hv, fun i x hx => ?_, Nat.le_trans hs hb.size, ho⟩
  obtain ⟨g, h0, h1, h2, h3, h4⟩ := hc i x hx
  have hl := World.block_lt_of_cell? w _ h1
  have e : ∀ j, w'.cell? ⟨g, j, none⟩ = w.cell? ⟨g, j, none⟩ := fun j => hb.cell (p := ⟨g, j, none⟩) hl
  exact ⟨g, h0, (e _).trans h1, (e _).trans h2, (e _).trans h3, (e _).trans h4⟩
theorem Try.info102 : (Try.prog.info? 102).map (fun i => (i.zero, i.size, i.bytes)) = some (some (.agg #[.int .i64 0, .int .i64 0, .int .i64 0, .slice none 0 0]), 4, 48) := by kernel_rfl

/-- A list that put builds; the message's own variable. -/
def RowRel (w : World) (c : Cm) (m : Nat) (xs : List Value) (v : Value) (wr : World) : Prop :=
  Below w.heap.size w wr ∧ wr.ownsRow (w.heap.size + 1) 102 4 v m xs ∧ wr.heap[w.heap.size]? = some (.cells #[.int .i64 c.at', .int .i64 c.direct, .int .i64 c.number, .slice c.a c.n c.c] 102)
theorem RowRel.calm {w wr w' : World} {c : Cm} {m : Nat} {xs : List Value} {v : Value} (h : RowRel w c m xs v wr) (hb : Below wr.heap.size wr w') : RowRel w c m xs v w' :=
  ⟨((Mv.of_below h.1).trans (Mv.of_below hb)).below, ownsRow_below h.2.1 hb, (hb.block _ (lt_of_heap h.2.2)).trans h.2.2⟩
theorem RowRel.app {w wr w' : World} {c : Cm} {m m' : Nat} {xs ys : List Value} {v v' : Value} {o : Obj} (h : RowRel w c m xs v wr) (hg : (wr.alloc o).grownBy w' v.ownBlock) (ho : w'.ownsRow (w.heap.size + 1) 102 4 v' m' ys) : RowRel w c m' ys v' w' := by
  have hs := h.1.size
  have hl := lt_of_heap h.2.2
  refine ⟨(h.1.alloc (by omega) o).grown hg (by simp; omega) (fun b hb => by have := (h.2.1.lt b hb).1; omega), ho, ?_⟩
  refine (hg.block _ (by simp; omega) (fun e => ?_)).trans ((Below.heap_alloc wr o _ hl).trans h.2.2)
  have := (h.2.1.lt _ e.symm).1
  omega
/-- The loop of put: what it has gathered. -/
def PutRel (w : World) (L : List Cm) (c : Cm) (k : Nat) (v : Value) (d : Bool) (wr : World) : Prop :=
  RowRel w c (putK L c k).1.length (cmCells (putK L c k).1) v wr ∧ (putK L c k).2 = d

set_option maxRecDepth 100000 in
set_option maxHeartbeats 3200000 in
theorem put_any (w : World) (v : Value) (L : List Cm) (c : Cm) (hin : CmIn B w v L) (hl : L.length ≤ 200) :
    Calls Try.prog 41 #[v, c.val] w fun e w' => ∃ v', e = .returned v' ∧ Below w.heap.size w w' ∧ w'.ownsRow (w.heap.size + 1) 102 4 v' (putF L c).length (cmCells (putF L c)) := by
  obtain ⟨i0, hi0, hz0, hz1, hz2⟩ := info_parts Try.info102
  have HIN := Lib.hid hin
  obtain ⟨ad, cap, rfl, _⟩ := hin
  obtain ⟨ca, cd, cn, cda, cad, cdn, cc⟩ := c
  obtain ⟨n, hn⟩ : ∃ n, n = L.length := ⟨_, rfl⟩
  have HN := Lib.hid hn
  rw [← hn] at hl ⊢
  clear hn
  unfold Cm.val
  simp only
  go_enter Try.func41, Try.ntmps41
  go_wp2_with fail
  go_loopw [5, 6, 7] (fun lv dv i wr => ∃ (k : Nat) (d : Bool), k ≤ n ∧ i = .int .i64 k ∧ dv = .bool d ∧ PutRel w L ⟨ca, cd, cn, cda, cad, cdn, cc⟩ k lv d wr) (fun _ _ i _ => n - (intOf i).toNat)
  case atStart => exact ⟨0, false, Nat.zero_le _, rfl, rfl, ⟨(Below.refl _ _).alloc (Nat.le_refl _) _, World.ownsRow_nil _ _ _ _, heap_alloc_new w _⟩, rfl⟩
  case round =>
    obtain ⟨k, d, hk, rfl, rfl, hrel⟩ := hrel
    have HR := Lib.hid hrel
    by_cases hlt : k < n
    · have hlt' : (k : Int) < n := by omega
      have hk0 : (0 : Int) ≤ k := by omega
      obtain ⟨⟨ya, yd, yn, yda, yad, ydn, yc⟩, hy⟩ : ∃ y, L[k]? = some y := ⟨_, List.getElem?_eq_getElem (by rw [← HN.out]; exact hlt)⟩
      obtain ⟨ad', cap', hv, hcells, _⟩ := HIN.out
      rw [← HN.out] at hv
      cases hv
      obtain ⟨g, rfl, s0, s1, s2, s3⟩ := hcells k _ hy
      have HY := Lib.hid hy
      have hgw : g < w.heap.size := World.block_lt_of_cell? _ _ s0
      simp only at s0 s1 s2 s3
      have lst : ∀ W, Below w.heap.size w W → W.cell? ⟨g, k * 4, none⟩ = some (.int .i64 ya) ∧ W.cell? ⟨g, k * 4 + 1, none⟩ = some (.int .i64 yd) ∧ W.cell? ⟨g, k * 4 + 2, none⟩ = some (.int .i64 yn) ∧ W.cell? ⟨g, k * 4 + 3, none⟩ = some (.slice yad ydn yc) := fun W hW =>
        ⟨(hW.cell (p := ⟨g, _, none⟩) hgw).trans s0, (hW.cell (p := ⟨g, _, none⟩) hgw).trans s1, (hW.cell (p := ⟨g, _, none⟩) hgw).trans s2, (hW.cell (p := ⟨g, _, none⟩) hgw).trans s3⟩
      have LST := Lib.hid lst
      obtain ⟨p0, p1, p2, p3'⟩ := lst wr hrel.1.1
      have hcb := hrel.1.2.2
      have q0 : wr.cell? ⟨w.heap.size, 0, none⟩ = some (.int .i64 ca) := cell_of_heap hcb 0 rfl
      have q1 : wr.cell? ⟨w.heap.size, 1, none⟩ = some (.int .i64 cd) := cell_of_heap hcb 1 rfl
      have q2 : wr.cell? ⟨w.heap.size, 2, none⟩ = some (.int .i64 cn) := cell_of_heap hcb 2 rfl
      have q3 : wr.cell? ⟨w.heap.size, 3, none⟩ = some (.slice cad cdn cc) := cell_of_heap hcb 3 rfl
      clear hcb
      clear hrel hcells hy lst s0 s1 s2 s3
      obtain ⟨fb, hfb⟩ : ∃ fb, fb = aheadB ⟨ca, cd, cn, cda, cad, cdn, cc⟩ ⟨ya, yd, yn, yda, yad, ydn, yc⟩ := ⟨_, rfl⟩
      have hA : ∀ W, Calls Try.prog 49 #[.agg #[.int .i64 ca, .int .i64 cd, .int .i64 cn, .slice cad cdn cc], .agg #[.int .i64 ya, .int .i64 yd, .int .i64 yn, .slice yad ydn yc]] W fun e w' => e = .returned (.bool fb) ∧ Below W.heap.size W w' := fun W => by
        have := ahead_any W ⟨ca, cd, cn, cda, cad, cdn, cc⟩ ⟨ya, yd, yn, yda, yad, ydn, yc⟩
        rw [← hfb] at this
        exact this
      have HA := Lib.hid hA
      have HFB := Lib.hid hfb
      have hlw : w.heap.size < wr.heap.size := World.block_lt_of_cell? _ _ q0
      have hlg : g < wr.heap.size := World.block_lt_of_cell? _ _ p0
      clear hA hfb
      go_wp2_with fail
      go_region_held3 (fun w' => w'.cell? ⟨w.heap.size, 0, none⟩ = some (.int .i64 ca) ∧ w'.cell? ⟨w.heap.size, 1, none⟩ = some (.int .i64 cd) ∧ w'.cell? ⟨w.heap.size, 2, none⟩ = some (.int .i64 cn) ∧ w'.cell? ⟨w.heap.size, 3, none⟩ = some (.slice cad cdn cc) ∧ w'.cell? ⟨g, k * 4, none⟩ = some (.int .i64 ya) ∧ w'.cell? ⟨g, k * 4 + 1, none⟩ = some (.int .i64 yd) ∧ w'.cell? ⟨g, k * 4 + 2, none⟩ = some (.int .i64 yn) ∧ w'.cell? ⟨g, k * 4 + 3, none⟩ = some (.slice yad ydn yc))
        (go_keep)
        (first
          | (go_at_call 49; refine (HA.out _).mono ?_; rintro e w'' ⟨rfl, hb0⟩; have hbw : Below wr.heap.size wr w'' := (by first | exact hb0 | exact (((Mv.refl _ _).drew).trans (Mv.of_below hb0)).below); have r0 := (hbw.cell (p := ⟨w.heap.size, 0, none⟩) hlw).trans q0; have r1 := (hbw.cell (p := ⟨w.heap.size, 1, none⟩) hlw).trans q1; have r2 := (hbw.cell (p := ⟨w.heap.size, 2, none⟩) hlw).trans q2; have r3 := (hbw.cell (p := ⟨w.heap.size, 3, none⟩) hlw).trans q3; have t0 := (hbw.cell (p := ⟨g, k * 4, none⟩) hlg).trans p0; have t1 := (hbw.cell (p := ⟨g, k * 4 + 1, none⟩) hlg).trans p1; have t2 := (hbw.cell (p := ⟨g, k * 4 + 2, none⟩) hlg).trans p2; have t3 := (hbw.cell (p := ⟨g, k * 4 + 3, none⟩) hlg).trans p3'; have HBW := Lib.hid hbw; clear hb0 hbw))
      have hR1 : RowRel w ⟨ca, cd, cn, cda, cad, cdn, cc⟩ (putK L ⟨ca, cd, cn, cda, cad, cdn, cc⟩ k).1.length (cmCells (putK L ⟨ca, cd, cn, cda, cad, cdn, cc⟩ k).1) u5 w'' := HR.out.1.calm HBW.out
      have hpl := putK_len L ⟨ca, cd, cn, cda, cad, cdn, cc⟩ k (by rw [← HN.out]; exact hk)
      obtain ⟨m, hm⟩ : ∃ m, m = (putK L ⟨ca, cd, cn, cda, cad, cdn, cc⟩ k).1.length := ⟨_, rfl⟩
      rw [← hm] at hR1 hpl
      have hm200 : m ≤ 201 := by omega
      have HM := Lib.hid hm
      have HR1 := Lib.hid hR1
      clear hR1 hpl hm
      have hstep := putK_succ (c := ⟨ca, cd, cn, cda, cad, cdn, cc⟩) HY.out
      have hd2 := HR.out.2
      by_cases hcase : fb = true ∧ d = false
      · obtain ⟨rfl, rfl⟩ := hcase
        have hnew : putK L ⟨ca, cd, cn, cda, cad, cdn, cc⟩ (k + 1) = ((putK L ⟨ca, cd, cn, cda, cad, cdn, cc⟩ k).1 ++ [⟨ca, cd, cn, cda, cad, cdn, cc⟩] ++ [⟨ya, yd, yn, yda, yad, ydn, yc⟩], true) := by
          rw [hstep]
          unfold putStep
          rw [hd2, ← HFB.out]
          simp
        have HNEW := Lib.hid hnew
        clear hnew hstep hd2
        go_wp2_with (first | (at_builtin; refine wpList_append_lies _ rfl _ _ 72 rfl (w.heap.size + 1) 102 i0 _ 4 48 Try.underlying72 hi0 hz0 hz1 hz2 rfl (by decide) _ m (cmCells (putK L ⟨ca, cd, cn, cda, cad, cdn, cc⟩ k).1) rfl (HR1.out.2.1.alloc _) ⟨w''.heap.size, 0, none⟩ 1 1 [.int .i64 ca, .int .i64 cd, .int .i64 cn, .slice cad cdn cc] rfl rfl (World.news_of_block (cs := #[.int .i64 ca, .int .i64 cd, .int .i64 cn, .slice cad cdn cc]) (t := 102) (fr := (0, 0)) (heap_alloc_new w'' _)) (by intro u hu; simp at hu; rcases hu with rfl | rfl | rfl | rfl <;> rfl) (by omega) (by unfold maxLen; omega) (by omega) (by have := HR1.out.1.size; simp; omega) (w''.heap.size + 1) (by simp) ?_; intro gg cp w3 hown1 hgrow hat hlt1; have hR2 : RowRel w ⟨ca, cd, cn, cda, cad, cdn, cc⟩ (m + 1) ((cmCells (putK L ⟨ca, cd, cn, cda, cad, cdn, cc⟩ k).1) ++ [.int .i64 ca, .int .i64 cd, .int .i64 cn, .slice cad cdn cc]) (.slice (some ⟨gg, 0, none⟩) (m + 1) cp) w3 := HR1.out.app hgrow hown1; obtain ⟨v0, v1, v2, v3⟩ := LST.out w3 hR2.1; have HR2 := Lib.hid hR2; clear hown1 hgrow hat hR2 t0 t1 t2 t3 r0 r1 r2 r3) | (at_builtin; refine wpList_append_lies _ rfl _ _ 72 rfl (w.heap.size + 1) 102 i0 _ 4 48 Try.underlying72 hi0 hz0 hz1 hz2 rfl (by decide) _ (m + 1) ((cmCells (putK L ⟨ca, cd, cn, cda, cad, cdn, cc⟩ k).1) ++ [.int .i64 ca, .int .i64 cd, .int .i64 cn, .slice cad cdn cc]) rfl (HR2.out.2.1.alloc _) ⟨w3.heap.size, 0, none⟩ 1 1 [.int .i64 ya, .int .i64 yd, .int .i64 yn, .slice yad ydn yc] rfl rfl (World.news_of_block (cs := #[.int .i64 ya, .int .i64 yd, .int .i64 yn, .slice yad ydn yc]) (t := 102) (fr := (0, 0)) (heap_alloc_new w3 _)) (by intro u hu; simp at hu; rcases hu with rfl | rfl | rfl | rfl <;> rfl) (by omega) (by unfold maxLen; omega) (by omega) (by have := HR2.out.1.size; simp; omega) (w3.heap.size + 1) (by simp) ?_; intro gh cq w4 hown2 hgrow2 hat2 hlt2))
        have hR3 := HR2.out.app hgrow2 hown2
        have HR3 := Lib.hid hR3
        clear hown2 hgrow2 hat2 hR3
        go_wp2_with fail
        go_roundw
        case rel => exact ⟨k + 1, true, by omega, by go_num, rfl, by rw [HNEW.out]; simp only [List.length_append, cmCells_snoc]; rw [← HM.out]; exact HR3.out, by rw [HNEW.out]⟩
        case measure => simp [intOf]; omega
      · have hcf : (fb && !d) = false := by cases fb <;> cases d <;> simp_all
        have hnew : putK L ⟨ca, cd, cn, cda, cad, cdn, cc⟩ (k + 1) = ((putK L ⟨ca, cd, cn, cda, cad, cdn, cc⟩ k).1 ++ [⟨ya, yd, yn, yda, yad, ydn, yc⟩], d) := by
          rw [hstep]
          unfold putStep
          rw [hd2, ← HFB.out, hcf]
          simp
        have HNEW := Lib.hid hnew
        clear hnew hstep hd2 hcf
        cases fb <;> cases d
        case false.false =>
          go_wp2_with (at_builtin; refine wpList_append_lies _ rfl _ _ 72 rfl (w.heap.size + 1) 102 i0 _ 4 48 Try.underlying72 hi0 hz0 hz1 hz2 rfl (by decide) _ m (cmCells (putK L ⟨ca, cd, cn, cda, cad, cdn, cc⟩ k).1) rfl (HR1.out.2.1.alloc _) ⟨w''.heap.size, 0, none⟩ 1 1 [.int .i64 ya, .int .i64 yd, .int .i64 yn, .slice yad ydn yc] rfl rfl (World.news_of_block (cs := #[.int .i64 ya, .int .i64 yd, .int .i64 yn, .slice yad ydn yc]) (t := 102) (fr := (0, 0)) (heap_alloc_new w'' _)) (by intro u hu; simp at hu; rcases hu with rfl | rfl | rfl | rfl <;> rfl) (by omega) (by unfold maxLen; omega) (by omega) (by have := HR1.out.1.size; simp; omega) (w''.heap.size + 1) (by simp) ?_; intro gg cp w3 hown1 hgrow hat hlt1)
          have hR2 := HR1.out.app hgrow hown1
          have HR2 := Lib.hid hR2
          clear hown1 hgrow hat hR2
          go_wp2_with fail
          go_roundw
          case rel => exact ⟨k + 1, false, by omega, by go_num, rfl, by rw [HNEW.out]; simp only [List.length_append, cmCells_snoc]; rw [← HM.out]; exact HR2.out, by rw [HNEW.out]⟩
          case measure => simp [intOf]; omega
        case false.true =>
          go_wp2_with (at_builtin; refine wpList_append_lies _ rfl _ _ 72 rfl (w.heap.size + 1) 102 i0 _ 4 48 Try.underlying72 hi0 hz0 hz1 hz2 rfl (by decide) _ m (cmCells (putK L ⟨ca, cd, cn, cda, cad, cdn, cc⟩ k).1) rfl (HR1.out.2.1.alloc _) ⟨w''.heap.size, 0, none⟩ 1 1 [.int .i64 ya, .int .i64 yd, .int .i64 yn, .slice yad ydn yc] rfl rfl (World.news_of_block (cs := #[.int .i64 ya, .int .i64 yd, .int .i64 yn, .slice yad ydn yc]) (t := 102) (fr := (0, 0)) (heap_alloc_new w'' _)) (by intro u hu; simp at hu; rcases hu with rfl | rfl | rfl | rfl <;> rfl) (by omega) (by unfold maxLen; omega) (by omega) (by have := HR1.out.1.size; simp; omega) (w''.heap.size + 1) (by simp) ?_; intro gg cp w3 hown1 hgrow hat hlt1)
          have hR2 := HR1.out.app hgrow hown1
          have HR2 := Lib.hid hR2
          clear hown1 hgrow hat hR2
          go_wp2_with fail
          go_roundw
          case rel => exact ⟨k + 1, true, by omega, by go_num, rfl, by rw [HNEW.out]; simp only [List.length_append, cmCells_snoc]; rw [← HM.out]; exact HR2.out, by rw [HNEW.out]⟩
          case measure => simp [intOf]; omega
        case true.true =>
          go_wp2_with (at_builtin; refine wpList_append_lies _ rfl _ _ 72 rfl (w.heap.size + 1) 102 i0 _ 4 48 Try.underlying72 hi0 hz0 hz1 hz2 rfl (by decide) _ m (cmCells (putK L ⟨ca, cd, cn, cda, cad, cdn, cc⟩ k).1) rfl (HR1.out.2.1.alloc _) ⟨w''.heap.size, 0, none⟩ 1 1 [.int .i64 ya, .int .i64 yd, .int .i64 yn, .slice yad ydn yc] rfl rfl (World.news_of_block (cs := #[.int .i64 ya, .int .i64 yd, .int .i64 yn, .slice yad ydn yc]) (t := 102) (fr := (0, 0)) (heap_alloc_new w'' _)) (by intro u hu; simp at hu; rcases hu with rfl | rfl | rfl | rfl <;> rfl) (by omega) (by unfold maxLen; omega) (by omega) (by have := HR1.out.1.size; simp; omega) (w''.heap.size + 1) (by simp) ?_; intro gg cp w3 hown1 hgrow hat hlt1)
          have hR2 := HR1.out.app hgrow hown1
          have HR2 := Lib.hid hR2
          clear hown1 hgrow hat hR2
          go_wp2_with fail
          go_roundw
          case rel => exact ⟨k + 1, true, by omega, by go_num, rfl, by rw [HNEW.out]; simp only [List.length_append, cmCells_snoc]; rw [← HM.out]; exact HR2.out, by rw [HNEW.out]⟩
          case measure => simp [intOf]; omega
        case true.false => exact absurd ⟨rfl, rfl⟩ hcase
    · have hlt' : ¬ (k : Int) < n := by omega
      obtain rfl : k = n := by omega
      have hpl := putK_len L ⟨ca, cd, cn, cda, cad, cdn, cc⟩ k (by rw [← HN.out]; exact Nat.le_refl _)
      obtain ⟨m, hm⟩ : ∃ m, m = (putK L ⟨ca, cd, cn, cda, cad, cdn, cc⟩ k).1.length := ⟨_, rfl⟩
      have hR1 := hrel.1
      have hd2 := hrel.2
      rw [← hm] at hR1 hpl
      have hm200 : m ≤ 201 := by omega
      have HM := Lib.hid hm
      have HR1 := Lib.hid hR1
      have q0 : wr.cell? ⟨w.heap.size, 0, none⟩ = some (.int .i64 ca) := cell_of_heap hR1.2.2 0 rfl
      have q1 : wr.cell? ⟨w.heap.size, 1, none⟩ = some (.int .i64 cd) := cell_of_heap hR1.2.2 1 rfl
      have q2 : wr.cell? ⟨w.heap.size, 2, none⟩ = some (.int .i64 cn) := cell_of_heap hR1.2.2 2 rfl
      have q3 : wr.cell? ⟨w.heap.size, 3, none⟩ = some (.slice cad cdn cc) := cell_of_heap hR1.2.2 3 rfl
      have hF : putF L ⟨ca, cd, cn, cda, cad, cdn, cc⟩ = if d then (putK L ⟨ca, cd, cn, cda, cad, cdn, cc⟩ k).1 else (putK L ⟨ca, cd, cn, cda, cad, cdn, cc⟩ k).1 ++ [⟨ca, cd, cn, cda, cad, cdn, cc⟩] := by
        unfold putF
        rw [← HN.out, hd2]
      have HF := Lib.hid hF
      clear hrel hR1 hd2 hpl hm hF
      cases d
      · go_wp2_with (at_builtin; refine wpList_append_lies _ rfl _ _ 72 rfl (w.heap.size + 1) 102 i0 _ 4 48 Try.underlying72 hi0 hz0 hz1 hz2 rfl (by decide) _ m (cmCells (putK L ⟨ca, cd, cn, cda, cad, cdn, cc⟩ k).1) rfl (HR1.out.2.1.alloc _) ⟨wr.heap.size, 0, none⟩ 1 1 [.int .i64 ca, .int .i64 cd, .int .i64 cn, .slice cad cdn cc] rfl rfl (World.news_of_block (cs := #[.int .i64 ca, .int .i64 cd, .int .i64 cn, .slice cad cdn cc]) (t := 102) (fr := (0, 0)) (heap_alloc_new wr _)) (by intro u hu; simp at hu; rcases hu with rfl | rfl | rfl | rfl <;> rfl) (by omega) (by unfold maxLen; omega) (by omega) (by have := HR1.out.1.size; simp; omega) (wr.heap.size + 1) (by simp) ?_; intro gg cp w3 hown1 hgrow hat hlt1)
        have hR2 := HR1.out.app hgrow hown1
        have HR2 := Lib.hid hR2
        clear hown1 hgrow hat hR2
        go_wp2_with fail
        go_ret
        refine ⟨_, rfl, HR2.out.1, ?_⟩
        rw [HF.out]
        simp only [Bool.false_eq_true, if_false, List.length_append, cmCells_snoc]
        rw [← HM.out]
        exact HR2.out.2.1
      · go_wp2_with fail
        go_ret
        refine ⟨_, rfl, HR1.out.1, ?_⟩
        rw [HF.out]
        simp only [if_true]
        rw [← HM.out]
        exact HR1.out.2.1
end Go.Proofs.Ytadalodjnbnjkaa
