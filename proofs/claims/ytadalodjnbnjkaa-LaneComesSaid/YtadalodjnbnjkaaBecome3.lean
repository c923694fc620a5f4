/- becomes: a message that comes twice. -/
import Derived.Test.YtadalodjnbnjkaaBecome2
namespace Go.Proofs.Ytadalodjnbnjkaa
open Go.RowKit Go.Conc
variable {B : Nat}

set_option maxHeartbeats 400000 in
theorem becomes_double (w : World) (v : Value) (L : List Cm) (hin : CmIn B w v L) (hl : L.length ≤ 199) (g l : Int) (x : Nat) (a : Option Addr) (n c t number : Nat) (data : List Int) (ht : t ≤ 100000) (hx : x ≤ 100000) :
    Calls Try.prog 27 #[v, .agg #[.int .i64 g, .int .i64 l, .slice a n c, .int .i64 2, .int .i64 x], .int .i64 t, .int .i64 number] w fun e w' => ∃ v', e = .returned v' ∧ Below w.heap.size w w' ∧ CmIn B w' v' (putF (putF L ⟨t, 1, number, data, a, n, c⟩) (lateC t x number data a n c)) := by
  have HIN := Lib.hid hin
  have hput := fun W (hW : CmIn B W v L) => put_in W v L ⟨t, 1, number, data, a, n, c⟩ hW (by omega)
  have hput2 := fun W v' (hW : CmIn B W v' (putF L ⟨t, 1, number, data, a, n, c⟩)) => put_in W v' _ (lateC t x number data a n c) hW (by have := putF_len L ⟨t, 1, number, data, a, n, c⟩; omega)
  have hlater : ∀ W, Calls Try.prog 42 #[.int .i64 t, .int .i64 x, .int .i64 number, .slice a n c] W fun e w' => e = .returned (lateC t x number data a n c).val ∧ Below W.heap.size W w' := fun W => later_any W t x number a n c ht hx
  obtain ⟨lv, hlv⟩ : ∃ lv, lv = (lateC t x number data a n c).val := ⟨_, rfl⟩
  rw [← hlv] at hlater
  simp only [← hlv] at hput2
  obtain ⟨C, hC⟩ : ∃ C, C = lateC t x number data a n c := ⟨_, rfl⟩
  simp only [← hC] at hput2 ⊢
  clear hlv hC
  obtain ⟨R1, hR1⟩ : ∃ R1, R1 = putF L ⟨t, 1, number, data, a, n, c⟩ := ⟨_, rfl⟩
  simp only [← hR1] at hput hput2 ⊢
  clear hR1
  obtain ⟨ad, cap, rfl, _⟩ := hin
  obtain ⟨m, hm⟩ : ∃ m, m = L.length := ⟨_, rfl⟩
  rw [← hm] at hput ⊢
  have HP := Lib.hid hput
  have HP2 := Lib.hid hput2
  have HL := Lib.hid hlater
  have HM := Lib.hid hm
  clear hm hput hput2 hlater
  have hb : ∀ o o' : Obj, Below w.heap.size w ((w.alloc o).alloc o') := fun o o' => ((Below.refl _ _).alloc (Nat.le_refl _) _).alloc (by simp) _
  have hcell : ∀ o o' : Obj, ∀ W, Below ((w.alloc o).alloc o').heap.size ((w.alloc o).alloc o') W → W.heap[w.heap.size]? = some o ∧ W.heap[w.heap.size + 1]? = some o' := fun o o' W hW => by
    have h1 := heap_alloc_new w o
    have h2 := heap_alloc_new (w.alloc o) o'
    have e : (w.alloc o).heap.size = w.heap.size + 1 := by simp
    rw [e] at h2
    refine ⟨(hW.block _ (by simp; omega)).trans ((Below.heap_alloc (w.alloc o) o' w.heap.size (by simp)).trans h1), (hW.block _ (by simp)).trans h2⟩
  have HB := Lib.hid hb
  have HCELL := Lib.hid hcell
  clear hb hcell
  go_enter Try.func27, Try.ntmps27
  go_wp2_with fail
  refine (HP.out _ (by have := HIN.out.still (HB.out (.cells #[.int .i64 g, .int .i64 l, .slice a n c, .int .i64 2, .int .i64 x] 55) (.cells #[.int .i64 t, .int .i64 1, .int .i64 number, .slice a n c] 102)); rw [← HM.out] at this; exact this)).mono ?_
  rintro e w1 ⟨v1, rfl, hb1, hc1⟩
  obtain ⟨k1, k2⟩ := HCELL.out _ _ _ hb1
  have q0 : w1.cell? ⟨w.heap.size, 2, none⟩ = some (.slice a n c) := cell_of_heap k1 2 rfl
  have q1 : w1.cell? ⟨w.heap.size, 4, none⟩ = some (.int .i64 x) := cell_of_heap k1 4 rfl
  have q2 : w1.cell? ⟨w.heap.size, 3 + 1, none⟩ = some (.int .i64 x) := q1
  have hbw : Below w.heap.size w w1 := ((Mv.of_below (HB.out _ _)).trans (Mv.of_below hb1)).below
  have HBW := Lib.hid hbw
  have HC1 := Lib.hid hc1
  obtain ⟨ad1, cap1, rfl, _⟩ := hc1
  clear hb1 hbw k1 k2
  go_wp2_with fail
  refine (HL.out _).mono ?_
  rintro e w2 ⟨rfl, hb2⟩
  have HB2 := Lib.hid hb2
  clear hb2
  go_wp2_with fail
  refine (HP2.out w2 _ (HC1.out.still HB2.out)).mono ?_
  rintro e w' ⟨v', rfl, hb3, hc3⟩
  have HB3 := Lib.hid hb3
  have HC3 := Lib.hid hc3
  clear hb3 hc3
  go_wp2_with fail
  go_ret
  exact ⟨v', rfl, (((Mv.of_below HBW.out).trans (Mv.of_below HB2.out)).trans (Mv.of_below HB3.out)).below, HC3.out⟩
end Go.Proofs.Ytadalodjnbnjkaa
