/- same: two slices of bytes, compared. -/
import Derived.Test.YtadalodjnbnjkaaBytes
import Derived.Deep.QuietTactic
import Derived.BigQuiet
namespace Go.Proofs.Ytadalodjnbnjkaa
open Go.RowKit Go.Conc

def sameB (a b : List Int) : Bool := decide (a = b)
theorem sameB_self (a : List Int) : sameB a a = true := by simp [sameB]
/-- What same leaves: the answer; the world but for draws. -/
def SameP (w : World) (b : Bool) (e : Ending) (w' : World) : Prop := e = .returned (.bool b) ∧ ∃ d, w' = w.drewN d

theorem take_succ_eq {a b : List Int} {k : Nat} (ha : k < a.length) (hb : k < b.length) (h : a.take k = b.take k) (he : a.getD k 0 = b.getD k 0) : a.take (k + 1) = b.take (k + 1) := by
  rw [List.take_succ_eq_append_getElem ha, List.take_succ_eq_append_getElem hb, h]
  rw [List.getD_eq_getElem?_getD, List.getD_eq_getElem?_getD, List.getElem?_eq_getElem ha, List.getElem?_eq_getElem hb] at he
  simp only [Option.getD_some] at he
  rw [he]

set_option maxHeartbeats 1600000 in
theorem same_any (w : World) (a1 a2 : Option Addr) (n1 c1 n2 c2 : Nat) (l1 l2 : List Int) (h1 : RowIn w a1 n1 l1) (h2 : RowIn w a2 n2 l2) (hs1 : n1 ≤ 1099511627776) :
    Calls Try.prog 22 #[.slice a1 n1 c1, .slice a2 n2 c2] w (SameP w (sameB l1 l2)) := by
  have b1 : (n1 : Int) ≤ 1099511627776 := by omega
  by_cases hn : n1 = n2
  · subst hn
    have hne : ((n1 : Int) != (n1 : Int)) = false := by simp
    have H1 := Lib.hid h1
    have H2 := Lib.hid h2
    clear h1 h2
    go_enter Try.func22, Try.ntmps22
    go_wp2_with fail
    go_loopw [5] (fun i wr => ∃ k : Nat, k ≤ n1 ∧ i = .int .i64 k ∧ l1.take k = l2.take k ∧ ∃ d, wr = w.drewN d) (fun i _ => n1 - (intOf i).toNat)
    case atStart => exact ⟨0, Nat.zero_le _, rfl, rfl, 0, rfl⟩
    case round =>
      obtain ⟨k, hk, rfl, heq, d, rfl⟩ := hrel
      have HEQ := Lib.hid heq
      clear heq
      by_cases hlt : k < n1
      · obtain ⟨p1, o1, rfl, hc1⟩ := H1.out.2.resolve_left (by omega)
        obtain ⟨p2, o2, rfl, hc2⟩ := H2.out.2.resolve_left (by omega)
        have hx := hc1 k hlt
        have hy := hc2 k hlt
        obtain ⟨x, hxe⟩ : ∃ x, x = l1.getD k 0 := ⟨_, rfl⟩
        obtain ⟨y, hye⟩ : ∃ y, y = l2.getD k 0 := ⟨_, rfl⟩
        rw [← hxe] at hx
        rw [← hye] at hy
        have HX := Lib.hid hxe
        have HY := Lib.hid hye
        have hkk : (k : Int) < n1 := by omega
        have hk0 : (0 : Int) ≤ k := by omega
        clear hc1 hc2 hxe hye
        by_cases hxy : x = y
        · subst hxy
          have hb : (x != x) = false := by simp
          go_wp2_with fail
          go_quiet (fail)
          go_wp2_with fail
          go_roundw
          case rel => exact ⟨k + 1, by omega, by go_num, take_succ_eq (by rw [H1.out.1]; exact hlt) (by rw [H2.out.1]; exact hlt) HEQ.out (by rw [← HX.out, ← HY.out]), _, rfl⟩
          case measure => simp [intOf]; omega
        · have hb : (x != y) = true := by simpa using hxy
          have HXY := Lib.hid hxy
          clear hxy
          go_wp2_with fail
          go_quiet (fail)
          go_wp2_with fail
          go_ret
          refine ⟨?_, _, World.drewN_drewN _ _ _⟩
          have : sameB l1 l2 = false := by
            unfold sameB
            refine decide_eq_false fun e => HXY.out ?_
            rw [HX.out, HY.out, e]
          rw [this]; rfl
      · have hge : (n1 : Int) ≤ k := by omega
        go_wp2
        go_ret
        refine ⟨?_, d, rfl⟩
        have : sameB l1 l2 = true := by
          have e := HEQ.out
          rw [List.take_of_length_le (by rw [H1.out.1]; omega), List.take_of_length_le (by rw [H2.out.1]; omega)] at e
          rw [e]; exact sameB_self _
        rw [this]; rfl
  · have hne : ((n1 : Int) != (n2 : Int)) = true := by simp; omega
    have : sameB l1 l2 = false := by
      unfold sameB
      refine decide_eq_false fun e => hn ?_
      rw [← h1.1, ← h2.1, e]
    rw [this]
    clear h1 h2 this
    go_enter Try.func22, Try.ntmps22
    go_wp2
    go_ret
    exact ⟨rfl, 0, rfl⟩
end Go.Proofs.Ytadalodjnbnjkaa
