/- New, where it gives no net. -/
import Derived.Test.YtadalodjnbnjkaaRefNew
namespace Go.Proofs.Ytadalodjnbnjkaa
open Go.RowKit Go.Conc

theorem New_lanes (w : World) (x : Int) (v : Value) (h : x < 1 ∨ 64 < x) : Calls Try.prog 12 #[.int .i64 x, v] w (RNone w 1) := by
  rcases h with h | h
  · have d1 : decide (x < 1) = true := by simpa using h
    go_enter Try.func12, Try.ntmps12
    go_wp2
    go_ret2
    exact ⟨rfl, Below.refl _ _⟩
  · have d1 : decide (x < 1) = false := by simp; omega
    have d2 : decide (x > 64) = true := by simpa using h
    go_enter Try.func12, Try.ntmps12
    go_wp2
    go_ret2
    exact ⟨rfl, Below.refl _ _⟩
theorem New_long (w : World) (x : Int) (a : Option Addr) (n c : Nat) (h : 1 ≤ x ∧ x ≤ 64) (hn : 65536 < n) : Calls Try.prog 12 #[.int .i64 x, .slice a n c] w (RNone w 2) := by
  obtain ⟨h1, h2⟩ := h
  have d1 : decide (x < 1) = false := by simp; omega
  have d2 : decide (x > 64) = false := by simp; omega
  have d3 : decide ((n : Int) > 65536) = true := by simp; omega
  have d4 : (65536 : Int) < n := by omega
  go_enter Try.func12, Try.ntmps12
  go_wp2
  go_ret2
  exact ⟨rfl, Below.refl _ _⟩

set_option maxRecDepth 100000 in
set_option maxHeartbeats 1600000 in
theorem New_bad (w : World) (nl fb nf fc : Nat) (F : List (Int × Int)) (h1 : 1 ≤ nl) (h2 : nl ≤ 64) (hF : F.length = nf) (hlen : nf ≤ 65536) (hbad : ∃ f ∈ F, ¬ mayF f) (hin : FateIn w fb F) :
    Calls Try.prog 12 #[.int .i64 nl, .slice (some ⟨fb, 0, none⟩) nf fc] w (RNone w 1) := by
  have d1 : decide ((nl : Int) < 1) = false := by simp; omega
  have d2 : decide ((nl : Int) > 64) = false := by simp; omega
  have d3 : decide ((nf : Int) > 65536) = false := by simp; omega
  have b1 : (1 : Int) ≤ nl := by omega
  have b2 : (nl : Int) ≤ 64 := by omega
  have b3 : (nf : Int) ≤ 65536 := by omega
  have HBAD := Lib.hid hbad
  have HIN := Lib.hid hin
  have HF := Lib.hid hF
  clear hbad hin hF
  go_enter Try.func12, Try.ntmps12
  go_wp2_with fail
  go_loopw [20] (fun i wr => ∃ k : Nat, k ≤ nf ∧ i = .int .i64 k ∧ Mv (fun _ => False) w wr ∧ ∀ f ∈ F.take k, mayF f) (fun i _ => nf - (intOf i).toNat)
  case atStart => exact ⟨0, Nat.zero_le _, rfl, Mv.refl _ _, fun f hf => by simp at hf⟩
  case round =>
    obtain ⟨k, hk, rfl, hm, hmay⟩ := hrel
    by_cases hlt : k < nf
    · have hc := (HIN.out.still hm) k (by rw [HF.out]; exact hlt)
      have hl : k < F.length := by rw [HF.out]; exact hlt
      have hget : F.getD k (0, 0) = F[k] := by rw [List.getD_eq_getElem?_getD, List.getElem?_eq_getElem hl]; rfl
      have hsucc : F.take (k + 1) = F.take k ++ [F.getD k (0, 0)] := by rw [List.take_succ_eq_append_getElem hl, hget]
      obtain ⟨⟨fk, fn⟩, hfk⟩ : ∃ f, f = F.getD k (0, 0) := ⟨_, rfl⟩
      rw [← hfk] at hc hsucc
      obtain ⟨c1, c2⟩ := hc
      simp only at c1 c2
      have HM := Lib.hid hm
      have HMAY := Lib.hid hmay
      have HSUCC := Lib.hid hsucc
      clear hm hmay hsucc hget hfk hl
      have hkk : (k : Int) < nf := by omega
      have hbl := World.block_lt_of_cell? wr _ c1
      by_cases hf : mayF (fk, fn)
      · have HMK := Lib.hid hf
        clear hf
        go_wp2_with (go_at_call 30; refine (may_yes fk fn _ HMK.out).mono ?_; rintro e w' ⟨rfl, hb⟩)
        go_roundw
        case rel =>
          refine ⟨k + 1, by omega, by go_num, (HM.out.alloc _).trans (Mv.of_below hb), fun f hf => ?_⟩
          rw [HSUCC.out] at hf
          simp only [List.mem_append, List.mem_singleton] at hf
          rcases hf with hf | rfl
          · exact HMAY.out f hf
          · exact HMK.out
        case measure => simp [intOf]; omega
      · have HMK := Lib.hid hf
        clear hf
        go_wp2_with (go_at_call 30; refine (may_no fk fn _ HMK.out).mono ?_; rintro e w' ⟨rfl, hb⟩)
        go_ret2
        exact ⟨rfl, ((HM.out.alloc _).trans (Mv.of_below hb)).below⟩
    · obtain rfl : k = nf := by omega
      exfalso
      obtain ⟨f, hf, hn⟩ := HBAD.out
      rw [List.take_of_length_le (by rw [HF.out]; omega)] at hmay
      exact hn (hmay f hf)
end Go.Proofs.Ytadalodjnbnjkaa
