/- becomes: a message that is cut. -/
import Derived.Test.YtadalodjnbnjkaaBecome3
namespace Go.Proofs.Ytadalodjnbnjkaa
open Go.RowKit Go.Conc
variable {B : Nat}

set_option maxHeartbeats 400000 in
theorem becomes_cut (w : World) (v : Value) (L : List Cm) (hin : CmIn B w v L) (hl : L.length ≤ 200) (g l : Int) (x : Nat) (a : Addr) (n c t number : Nat) (data : List Int) (hx : x < n) (hc : n ≤ c) :
    Calls Try.prog 27 #[v, .agg #[.int .i64 g, .int .i64 l, .slice (some a) n c, .int .i64 4, .int .i64 x], .int .i64 t, .int .i64 number] w fun e w' => ∃ v', e = .returned v' ∧ Below w.heap.size w w' ∧ CmIn B w' v' (putF L ⟨t, 1, number, data, some a, x, c⟩) := by
  have HIN := Lib.hid hin
  have hput := fun W (hW : CmIn B W v L) => put_in W v L ⟨t, 1, number, data, some a, x, c⟩ hW hl
  obtain ⟨ad, cap, rfl, _⟩ := hin
  obtain ⟨m, hm⟩ : ∃ m, m = L.length := ⟨_, rfl⟩
  rw [← hm] at hput ⊢
  have HP := Lib.hid hput
  have HM := Lib.hid hm
  clear hm hput
  have hb : ∀ o o' : Obj, Below w.heap.size w ((w.alloc o).alloc o') := fun o o' => ((Below.refl _ _).alloc (Nat.le_refl _) _).alloc (by simp) _
  have HB := Lib.hid hb
  clear hb
  have hx1 : (x : Int) < n := by omega
  have hx2 : (0 : Int) ≤ x := by omega
  have hx3 : (x : Int) ≤ c := by omega
  go_enter Try.func27, Try.ntmps27
  go_wp2_with fail
  refine (HP.out _ (by have := HIN.out.still (HB.out (.cells #[.int .i64 g, .int .i64 l, .slice (some a) n c, .int .i64 4, .int .i64 x] 55) (.cells #[.int .i64 t, .int .i64 1, .int .i64 number, .slice (some a) x c] 102)); rw [← HM.out] at this; exact this)).mono ?_
  rintro e w' ⟨v', rfl, hb1, hc1⟩
  have HB1 := Lib.hid hb1
  have HC1 := Lib.hid hc1
  clear hb1 hc1
  go_wp2_with fail
  go_ret
  exact ⟨v', rfl, ((Mv.of_below (HB.out _ _)).trans (Mv.of_below HB1.out)).below, HC1.out⟩

theorem becomes_same (w : World) (v : Value) (L : List Cm) (hin : CmIn B w v L) (hl : L.length ≤ 200) (g l : Int) (k : Int) (hk : k = 4 ∨ k = 5) (x : Nat) (a : Option Addr) (n c t number : Nat) (data : List Int) (hx : n ≤ x) :
    Calls Try.prog 27 #[v, .agg #[.int .i64 g, .int .i64 l, .slice a n c, .int .i64 k, .int .i64 x], .int .i64 t, .int .i64 number] w fun e w' => ∃ v', e = .returned v' ∧ Below w.heap.size w w' ∧ CmIn B w' v' (putF L ⟨t, 1, number, data, a, n, c⟩) := by
  have HIN := Lib.hid hin
  have hput := fun W (hW : CmIn B W v L) => put_in W v L ⟨t, 1, number, data, a, n, c⟩ hW hl
  obtain ⟨ad, cap, rfl, _⟩ := hin
  obtain ⟨m, hm⟩ : ∃ m, m = L.length := ⟨_, rfl⟩
  rw [← hm] at hput ⊢
  have HP := Lib.hid hput
  have HM := Lib.hid hm
  clear hm hput
  have hb : ∀ o o' : Obj, Below w.heap.size w ((w.alloc o).alloc o') := fun o o' => ((Below.refl _ _).alloc (Nat.le_refl _) _).alloc (by simp) _
  have HB := Lib.hid hb
  clear hb
  have hx1 : ¬ (x : Int) < n := by omega
  rcases hk with rfl | rfl
  · go_enter Try.func27, Try.ntmps27
    go_wp2_with fail
    refine (HP.out _ (by have := HIN.out.still (HB.out (.cells #[.int .i64 g, .int .i64 l, .slice a n c, .int .i64 4, .int .i64 x] 55) (.cells #[.int .i64 t, .int .i64 1, .int .i64 number, .slice a n c] 102)); rw [← HM.out] at this; exact this)).mono ?_
    rintro e w' ⟨v', rfl, hb1, hc1⟩
    have HB1 := Lib.hid hb1
    have HC1 := Lib.hid hc1
    clear hb1 hc1
    go_wp2_with fail
    go_ret
    exact ⟨v', rfl, ((Mv.of_below (HB.out _ _)).trans (Mv.of_below HB1.out)).below, HC1.out⟩
  · go_enter Try.func27, Try.ntmps27
    go_wp2_with fail
    refine (HP.out _ (by have := HIN.out.still (HB.out (.cells #[.int .i64 g, .int .i64 l, .slice a n c, .int .i64 5, .int .i64 x] 55) (.cells #[.int .i64 t, .int .i64 1, .int .i64 number, .slice a n c] 102)); rw [← HM.out] at this; exact this)).mono ?_
    rintro e w' ⟨v', rfl, hb1, hc1⟩
    have HB1 := Lib.hid hb1
    have HC1 := Lib.hid hc1
    clear hb1 hc1
    go_wp2_with fail
    go_ret
    exact ⟨v', rfl, ((Mv.of_below (HB.out _ _)).trans (Mv.of_below HB1.out)).below, HC1.out⟩
end Go.Proofs.Ytadalodjnbnjkaa
