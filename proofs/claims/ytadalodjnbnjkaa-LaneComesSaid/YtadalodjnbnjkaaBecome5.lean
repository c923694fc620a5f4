/- becomes: a message with a byte turned. -/
import Derived.Test.YtadalodjnbnjkaaBecome4
import Derived.BigRegion
namespace Go.Proofs.Ytadalodjnbnjkaa
open Go.RowKit Go.Conc
variable {B : Nat}

set_option maxRecDepth 100000 in
set_option maxHeartbeats 1600000 in
theorem becomes_spoil (w : World) (v : Value) (L : List Cm) (hin : CmIn B w v L) (hl : L.length ≤ 200) (g l : Int) (x : Nat) (a : Addr) (n c t number : Nat) (data : List Int) (hr : RowIn w (some a) n data) (hn : n ≤ 4096) (hx : x < n) :
    Calls Try.prog 27 #[v, .agg #[.int .i64 g, .int .i64 l, .slice (some a) n c, .int .i64 5, .int .i64 x], .int .i64 t, .int .i64 number] w fun e w' => ∃ v' gg cc, e = .returned v' ∧ Below w.heap.size w w' ∧ CmIn B w' v' (putF L ⟨t, 1, number, spoilt data x, some ⟨gg, 0, none⟩, n, cc⟩) ∧ w.heap.size ≤ gg ∧ RowIn w' (some ⟨gg, 0, none⟩) n (spoilt data x) := by
  have HIN := Lib.hid hin
  have HR := Lib.hid hr
  have hput := fun W gg cc (hW : CmIn B W v L) => put_in W v L ⟨t, 1, number, spoilt data x, some ⟨gg, 0, none⟩, n, cc⟩ hW hl
  obtain ⟨ad, cap, rfl, _⟩ := hin
  obtain ⟨m, hm⟩ : ∃ m, m = L.length := ⟨_, rfl⟩
  rw [← hm] at hput ⊢
  have HP := Lib.hid hput
  have HM := Lib.hid hm
  clear hm hput hr
  have hb : ∀ o o' : Obj, Below w.heap.size w ((w.alloc o).alloc o') := fun o o' => ((Below.refl _ _).alloc (Nat.le_refl _) _).alloc (by simp) _
  have HB := Lib.hid hb
  clear hb
  have hx1 : (x : Int) < n := by omega
  have hx2 : (0 : Int) ≤ x := by omega
  have hx4 : (n : Int) ≤ (n : Int) + 200 := by omega
  obtain ⟨c0, hc0⟩ : ∃ W : World, W = w := ⟨_, rfl⟩
  clear hc0 c0
  go_enter Try.func27, Try.ntmps27
  go_wp2_with fail
  have hfacts : ∀ W0 : World, W0 = (w.alloc (.cells #[.int .i64 g, .int .i64 l, .slice (some a) n c, .int .i64 5, .int .i64 x] 55)).alloc (.cells #[.int .i64 t, .int .i64 1, .int .i64 number, .slice (some a) n c] 102) →
      Below w.heap.size w W0 ∧ w.heap.size + 1 < W0.heap.size ∧ W0.heap[w.heap.size]? = some (.cells #[.int .i64 g, .int .i64 l, .slice (some a) n c, .int .i64 5, .int .i64 x] 55) ∧ W0.heap[w.heap.size + 1]? = some (.cells #[.int .i64 t, .int .i64 1, .int .i64 number, .slice (some a) n c] 102) := by
    rintro W0 rfl
    refine ⟨HB.out _ _, by simp, (Below.heap_alloc _ _ w.heap.size (by simp)).trans (heap_alloc_new w _), ?_⟩
    have := heap_alloc_new (w.alloc (.cells #[.int .i64 g, .int .i64 l, .slice (some a) n c, .int .i64 5, .int .i64 x] 55)) (.cells #[.int .i64 t, .int .i64 1, .int .i64 number, .slice (some a) n c] 102)
    simpa using this
  generalize hW0 : (w.alloc (.cells #[.int .i64 g, .int .i64 l, .slice (some a) n c, .int .i64 5, .int .i64 x] 55)).alloc (.cells #[.int .i64 t, .int .i64 1, .int .i64 number, .slice (some a) n c] 102) = W0
  obtain ⟨hb0, hs0, hk0, hk1⟩ := hfacts W0 hW0.symm
  clear hW0 hfacts HB
  have d0 : W0.cell? ⟨w.heap.size, 2, none⟩ = some (.slice (some a) n c) := cell_of_heap hk0 2 rfl
  have d1 : W0.cell? ⟨w.heap.size + 1, 3, none⟩ = some (.slice (some a) n c) := cell_of_heap hk1 3 rfl
  have d2 : W0.frozen? ⟨w.heap.size + 1, 3, none⟩ = false := free_of_heap hk1 3
  have HB0 := Lib.hid hb0
  have HK0 := Lib.hid hk0
  have HK1 := Lib.hid hk1
  clear hb0 hk0 hk1
  go_region_held3 (fun w' => w'.cell? ⟨w.heap.size, 2, none⟩ = some (.slice (some a) n c))
    (go_keep)
    (first
      | (go_at_call 24; refine (lent_any W0.drew (some a) n c data ((HR.out.still HB0.out).of_heap rfl) (by omega)).mono ?_; rintro e w1 ⟨gg, cur, rfl, h1, h2, h3, h4, h5, h6⟩; have hb1 : Below W0.heap.size W0 w1 := (((Mv.refl _ _).drew).trans (Mv.of_below h2)).below; have k0 : w1.cell? ⟨w.heap.size, 2, none⟩ = some (.slice (some a) n c) := (hb1.cell (p := ⟨w.heap.size, 2, none⟩) (by show w.heap.size < W0.heap.size; omega)).trans d0; have k1 : w1.cell? ⟨w.heap.size + 1, 3, none⟩ = some (.slice (some a) n c) := (hb1.cell (p := ⟨w.heap.size + 1, 3, none⟩) hs0).trans d1; have k2 : w1.frozen? ⟨w.heap.size + 1, 3, none⟩ = false := (hb1.frozen (p := ⟨w.heap.size + 1, 3, none⟩) hs0).trans d2; have HB1 := Lib.hid hb1; have HG := Lib.hid h1; have HC := Lib.hid h3; have HC4 := Lib.hid h4; have HC5 := Lib.hid h5; clear hb1 h1 h2 h3 h4 h5 h6))
  go_wp2_with fail
  have hfacts : ∀ W2 : World, W2 = w1.setCell ⟨w.heap.size + 1, 3, none⟩ (.slice (some ⟨gg, 0, none⟩) n (n + 200)) →
      Below w.heap.size w W2 ∧ w.heap.size ≤ gg ∧ gg ≠ w.heap.size + 1 ∧ W2.heap[w.heap.size]? = some (.cells #[.int .i64 g, .int .i64 l, .slice (some a) n c, .int .i64 5, .int .i64 x] 55) ∧ W2.heap[w.heap.size + 1]? = some (.cells #[.int .i64 t, .int .i64 1, .int .i64 number, .slice (some ⟨gg, 0, none⟩) n (n + 200)] 102) ∧ W2.heap[gg]? = some (.cells cur 5 (0, 0)) := by
    rintro W2 rfl
    have hgg : W0.heap.size ≤ gg := HG.out
    have q0 := (HB1.out.block w.heap.size (by omega)).trans HK0.out
    have q1 := (HB1.out.block (w.heap.size + 1) (by omega)).trans HK1.out
    refine ⟨(((Mv.of_below HB0.out).trans (Mv.of_below HB1.out)).setCell (.inr (by show w.heap.size ≤ w.heap.size + 1; omega)) _).below, by omega, by omega, (heap_setCell_other (by omega) _).trans q0, ?_, (heap_setCell_other (by omega) _).trans HC.out⟩
    exact heap_setCell_same q1 _
  generalize hW2 : w1.setCell ⟨w.heap.size + 1, 3, none⟩ (.slice (some ⟨gg, 0, none⟩) n (n + 200)) = W2
  obtain ⟨hb2, hg1, hg2, hk0, hk1, hk2⟩ := hfacts W2 hW2.symm
  clear hW2 hfacts HB0 HK0 HK1 HB1 HG HC k0 k1 k2 d0 d1 d2
  have d0 : W2.cell? ⟨w.heap.size, 4, none⟩ = some (.int .i64 x) := cell_of_heap hk0 4 rfl
  have d1 : W2.cell? ⟨w.heap.size + 1, 3, none⟩ = some (.slice (some ⟨gg, 0, none⟩) n (n + 200)) := cell_of_heap hk1 3 rfl
  have d2 : W2.cell? ⟨gg, x, none⟩ = some (.int .u8 (data.getD x 0)) := cell_of_heap hk2 x (HC5.out x hx)
  have d3 : W2.frozen? ⟨gg, x, none⟩ = false := free_of_heap hk2 x
  have d4 : W2.cell? ⟨w.heap.size, 3 + 1, none⟩ = some (.int .i64 x) := d0
  have HB2 := Lib.hid hb2
  have HK0 := Lib.hid hk0
  have HK1 := Lib.hid hk1
  have HK2 := Lib.hid hk2
  clear hb2 hk0 hk1 hk2
  obtain ⟨z, hz⟩ : ∃ z, z = data.getD x 0 := ⟨_, rfl⟩
  rw [← hz] at d2
  have HZ := Lib.hid hz
  clear hz
  go_region
  have hfin : ∀ W3 : World, W3.heap = (W2.setCell ⟨gg, x, none⟩ (.int .u8 (bits BinOp.xor IntKind.u8 z 1))).heap → Mv (fun _ => False) w W3 →
      W3.heap[w.heap.size + 1]? = some (.cells #[.int .i64 t, .int .i64 1, .int .i64 number, .slice (some ⟨gg, 0, none⟩) n (n + 200)] 102) ∧ RowIn W3 (some ⟨gg, 0, none⟩) n (spoilt data x) := by
    intro W3 hh _
    refine ⟨by rw [hh]; exact (heap_setCell_other (by omega) _).trans HK1.out, ⟨by unfold spoilt; rw [List.length_set]; exact HR.out.1, .inr ⟨gg, 0, rfl, fun j hj => ?_⟩⟩⟩
    have hk : W3.heap[gg]? = some (.cells (cur.setIfInBounds x (.int .u8 (bits BinOp.xor IntKind.u8 z 1))) 5 (0, 0)) := by rw [hh]; exact heap_setCell_same HK2.out _
    rw [Nat.zero_add]
    refine cell_of_heap hk j ?_
    have hsz := HC4.out
    by_cases e : j = x
    · subst e
      rw [Array.getElem?_setIfInBounds_self, if_pos (by omega), HZ.out]
      unfold spoilt
      have hl1 : j < data.length := by rw [HR.out.1]; exact hj
      simp [List.getD_eq_getElem?_getD, hl1]
    · rw [Array.getElem?_setIfInBounds_ne (Ne.symm e), HC5.out j hj]
      unfold spoilt
      simp [List.getD_eq_getElem?_getD, Ne.symm e]
  have HFIN := Lib.hid hfin
  have hmv : Mv (fun _ => False) w (W2.setCell ⟨gg, x, none⟩ (.int .u8 (bits BinOp.xor IntKind.u8 z 1))) := (Mv.of_below HB2.out).setCell (.inr hg1) _
  have HMV := Lib.hid hmv
  have e0 : W2.cell? ⟨w.heap.size + 1, 0, none⟩ = some (.int .i64 t) := cell_of_heap HK1.out 0 rfl
  have e1 : W2.cell? ⟨w.heap.size + 1, 1, none⟩ = some (.int .i64 1) := cell_of_heap HK1.out 1 rfl
  have e2 : W2.cell? ⟨w.heap.size + 1, 2, none⟩ = some (.int .i64 number) := cell_of_heap HK1.out 2 rfl
  clear hfin hmv d0 d2 d3 d4
  go_wp2_with fail
  refine (HP.out _ gg (n + 200) (by have hmv2 := HMV.out; have h3 := HIN.out.still (by first | exact hmv2.drew.below | exact hmv2.below); rw [← HM.out] at h3; exact h3)).mono ?_
  rintro e w' ⟨v', rfl, hb1, hc1⟩
  have HB1 := Lib.hid hb1
  have HC1 := Lib.hid hc1
  clear hb1 hc1
  go_wp2_with fail
  go_ret
  refine ⟨v', gg, n + 200, rfl, ((HMV.out.drew).trans (Mv.of_below HB1.out)).below, HC1.out, hg1, ?_⟩
  exact ((HFIN.out (World.drew _) rfl HMV.out.drew).2).still HB1.out
end Go.Proofs.Ytadalodjnbnjkaa
