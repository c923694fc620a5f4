/- becomes: a message that is late; a message that comes twice. -/
import Derived.Test.YtadalodjnbnjkaaBecome
namespace Go.Proofs.Ytadalodjnbnjkaa
open Go.RowKit Go.Conc
variable {B : Nat}

def lateC (t x number : Nat) (data : List Int) (a : Option Addr) (n c : Nat) : Cm := ⟨t + x, if 0 < x then 0 else 1, number, data, a, n, c⟩
theorem putF_len (L : List Cm) (c : Cm) : (putF L c).length ≤ L.length + 1 := by
  have h := putK_len L c L.length (Nat.le_refl _)
  unfold putF
  split
  · exact h.1
  · rename_i hf
    have := h.2 (by simpa using hf)
    rw [List.length_append]
    simp; omega

set_option maxHeartbeats 400000 in
theorem becomes_delay (w : World) (v : Value) (L : List Cm) (hin : CmIn B w v L) (hl : L.length ≤ 200) (g l : Int) (x : Nat) (a : Option Addr) (n c t number : Nat) (data : List Int) (ht : t ≤ 100000) (hx : x ≤ 100000) :
    Calls Try.prog 27 #[v, .agg #[.int .i64 g, .int .i64 l, .slice a n c, .int .i64 3, .int .i64 x], .int .i64 t, .int .i64 number] w fun e w' => ∃ v', e = .returned v' ∧ Below w.heap.size w w' ∧ CmIn B w' v' (putF L (lateC t x number data a n c)) := by
  have HIN := Lib.hid hin
  have hput := fun W (hW : CmIn B W v L) => put_in W v L (lateC t x number data a n c) hW hl
  have hlater : ∀ W, Calls Try.prog 42 #[.int .i64 t, .int .i64 x, .int .i64 number, .slice a n c] W fun e w' => e = .returned (lateC t x number data a n c).val ∧ Below W.heap.size W w' := fun W => later_any W t x number a n c ht hx
  obtain ⟨lv, hlv⟩ : ∃ lv, lv = (lateC t x number data a n c).val := ⟨_, rfl⟩
  rw [← hlv] at hlater
  simp only [← hlv] at hput
  obtain ⟨C, hC⟩ : ∃ C, C = lateC t x number data a n c := ⟨_, rfl⟩
  simp only [← hC] at hput ⊢
  clear hlv hC
  obtain ⟨ad, cap, rfl, _⟩ := hin
  obtain ⟨m, hm⟩ : ∃ m, m = L.length := ⟨_, rfl⟩
  rw [← hm] at hput ⊢
  have HP := Lib.hid hput
  have HL := Lib.hid hlater
  have HM := Lib.hid hm
  clear hm hput hlater
  have hb : ∀ o o' : Obj, Below w.heap.size w ((w.alloc o).alloc o') := fun o o' => ((Below.refl _ _).alloc (Nat.le_refl _) _).alloc (by simp) _
  have HB := Lib.hid hb
  clear hb
  go_enter Try.func27, Try.ntmps27
  go_wp2_with fail
  refine (HL.out _).mono ?_
  rintro e w1 ⟨rfl, hb1⟩
  have hbw : Below w.heap.size w w1 := ((Mv.of_below (HB.out _ _)).trans (Mv.of_below hb1)).below
  have HBW := Lib.hid hbw
  clear hb1 hbw
  go_wp2_with fail
  refine (HP.out w1 (by have := HIN.out.still HBW.out; rw [← HM.out] at this; exact this)).mono ?_
  rintro e w' ⟨v', rfl, hb1, hc1⟩
  have HB1 := Lib.hid hb1
  have HC1 := Lib.hid hc1
  clear hb1 hc1
  go_wp2_with fail
  go_ret
  exact ⟨v', rfl, ((Mv.of_below HBW.out).trans (Mv.of_below HB1.out)).below, HC1.out⟩

end Go.Proofs.Ytadalodjnbnjkaa
