/- The small functions of the network of lanes: has, Now, over, end, Waiting, below. -/
import Derived.Test.YtadalodjnbnjkaaCome
namespace Go.Proofs.Ytadalodjnbnjkaa
open Go.RowKit Go.Conc

theorem has_yes (w : World) (p nl cap : Nat) (ad : Option Addr) (x : Int) (h0 : w.cell? ⟨p, 0, none⟩ = some (.slice ad nl cap)) (h1 : 0 ≤ x) (h2 : x < nl) :
    Calls Try.prog 33 #[.pointer (some ⟨p, 0, none⟩), .int .i64 x] w fun e w' => e = .returned (.bool true) ∧ w = w' := by
  have g1 : decide (0 ≤ x) = true := by simpa using h1
  have g2 : decide (x < nl) = true := by simpa using h2
  go_enter Try.func33, Try.ntmps33
  go_wp2
  go_ret
  exact ⟨rfl, rfl⟩

theorem has_no (w : World) (p nl cap : Nat) (ad : Option Addr) (x : Int) (h0 : w.cell? ⟨p, 0, none⟩ = some (.slice ad nl cap)) (h1 : x < 0 ∨ nl ≤ x) :
    Calls Try.prog 33 #[.pointer (some ⟨p, 0, none⟩), .int .i64 x] w fun e w' => e = .returned (.bool false) ∧ w = w' := by
  by_cases h2 : 0 ≤ x
  · have h3 : nl ≤ x := by omega
    have g1 : decide (0 ≤ x) = true := by simpa using h2
    have g2 : decide (x < nl) = false := by simpa using h3
    clear h1
    go_enter Try.func33, Try.ntmps33
    go_wp2
    go_ret
    exact ⟨rfl, rfl⟩
  · have g1 : decide (0 ≤ x) = false := by simpa using h2
    clear h1
    go_enter Try.func33, Try.ntmps33
    go_wp2
    go_ret
    exact ⟨rfl, rfl⟩

theorem now_any (w : World) (p : Nat) (t : Int) (h0 : w.cell? ⟨p, 3, none⟩ = some (.int .i64 t)) :
    Calls Try.prog 16 #[.pointer (some ⟨p, 0, none⟩)] w fun e w' => e = .returned (.int .i64 t) ∧ w = w' := by
  go_enter Try.func16, Try.ntmps16
  go_wp2
  go_ret
  exact ⟨rfl, rfl⟩

theorem over_shut (w : World) (q c cap s r : Nat) (buf : Array Value) (sh : Bool) (h0 : w.cell? ⟨q, 0, none⟩ = some (.chan (some c))) (h1 : w.cell? ⟨q, 1, none⟩ = some (.bool true)) (h2 : w.cell? ⟨q, 2, none⟩ = some (.int .i64 0))
    (hc : w.heap[c]? = some (.chan cap buf sh s r false)) (b : Bool) (hb : decide ((buf.size : Int) = 0) = b) :
    Calls Try.prog 47 #[.pointer (some ⟨q, 0, none⟩)] w fun e w' => e = .returned (.bool b) ∧ w = w' := by
  have hlen := fun ty => run_len_chan (P := Try.prog) 84 ty Try.underlying84 hc
  have hb' : ((buf.size : Int) == 0) = b := by rw [← hb]; rfl
  clear hc hb
  go_enter Try.func47, Try.ntmps47
  go_wp2
  go_ret
  exact ⟨rfl, rfl⟩

theorem over_open (w : World) (q : Nat) (h1 : w.cell? ⟨q, 1, none⟩ = some (.bool false)) :
    Calls Try.prog 47 #[.pointer (some ⟨q, 0, none⟩)] w fun e w' => e = .returned (.bool false) ∧ w = w' := by
  go_enter Try.func47, Try.ntmps47
  go_wp2
  go_ret
  exact ⟨rfl, rfl⟩

theorem over_coming (w : World) (q : Nat) (n : Int) (h1 : w.cell? ⟨q, 1, none⟩ = some (.bool true)) (h2 : w.cell? ⟨q, 2, none⟩ = some (.int .i64 n)) (hn : (n == 0) = false) :
    Calls Try.prog 47 #[.pointer (some ⟨q, 0, none⟩)] w fun e w' => e = .returned (.bool false) ∧ w = w' := by
  go_enter Try.func47, Try.ntmps47
  go_wp2
  go_ret
  exact ⟨rfl, rfl⟩

theorem end_open (w : World) (q : Nat) (h1 : w.cell? ⟨q, 1, none⟩ = some (.bool false)) :
    Calls Try.prog 40 #[.pointer (some ⟨q, 0, none⟩)] w fun e w' => e = .returned (.tuple #[]) ∧ w = w' := by
  go_enter Try.func40, Try.ntmps40
  go_wp2
  go_end0
  exact ⟨rfl, rfl⟩

theorem end_coming (w : World) (q : Nat) (n : Int) (h1 : w.cell? ⟨q, 1, none⟩ = some (.bool true)) (h2 : w.cell? ⟨q, 2, none⟩ = some (.int .i64 n)) (hn : (n == 0) = false) :
    Calls Try.prog 40 #[.pointer (some ⟨q, 0, none⟩)] w fun e w' => e = .returned (.tuple #[]) ∧ w = w' := by
  go_enter Try.func40, Try.ntmps40
  go_wp2
  go_end0
  exact ⟨rfl, rfl⟩

theorem end_shut (w : World) (q c cap s r : Nat) (buf : Array Value) (h0 : w.cell? ⟨q, 0, none⟩ = some (.chan (some c))) (h1 : w.cell? ⟨q, 1, none⟩ = some (.bool true)) (h2 : w.cell? ⟨q, 2, none⟩ = some (.int .i64 0))
    (hc : w.heap[c]? = some (.chan cap buf false s r false)) :
    Calls Try.prog 40 #[.pointer (some ⟨q, 0, none⟩)] w fun e w' => e = .returned (.tuple #[]) ∧ w.setChan c cap buf true s r false = w' := by
  have hcl := fun ats ty => run_close_open (P := Try.prog) (w := w) ats ty hc
  clear hc
  go_enter Try.func40, Try.ntmps40
  go_wp2
  go_end0
  exact ⟨rfl, rfl⟩

theorem waiting_any (w : World) (p ar nl cap q c room s r i : Nat) (buf : Array Value) (sh : Bool) (h0 : w.cell? ⟨p, 0, none⟩ = some (.slice (some ⟨ar, 0, none⟩) nl cap)) (hi : i < nl)
    (h1 : w.cell? ⟨ar, i, none⟩ = some (.pointer (some ⟨q, 0, none⟩))) (h2 : w.cell? ⟨q, 0, none⟩ = some (.chan (some c))) (hc : w.heap[c]? = some (.chan room buf sh s r false)) :
    Calls Try.prog 15 #[.pointer (some ⟨p, 0, none⟩), .int .i64 i] w fun e w' => e = .returned (.tuple #[.int .i64 buf.size, .int .i64 0]) ∧ w = w' := by
  have hlen := fun ty => run_len_chan (P := Try.prog) 84 ty Try.underlying84 hc
  have hii : (i : Int) < nl := by omega
  clear hc
  go_enter Try.func15, Try.ntmps15
  go_wp2_with (go_at_call 33; refine (has_yes _ p nl cap _ _ h0 (by omega) (by omega)).mono ?_; rintro e w' ⟨rfl, rfl⟩)
  go_ret2
  exact ⟨rfl, rfl⟩

theorem waiting_no (w : World) (p nl cap : Nat) (ad : Option Addr) (x : Int) (h0 : w.cell? ⟨p, 0, none⟩ = some (.slice ad nl cap)) (h1 : x < 0 ∨ nl ≤ x) :
    Calls Try.prog 15 #[.pointer (some ⟨p, 0, none⟩), .int .i64 x] w fun e w' => e = .returned (.tuple #[.int .i64 0, .int .i64 192]) ∧ w = w' := by
  have H := Lib.hid h1
  clear h1
  go_enter Try.func15, Try.ntmps15
  go_wp2_with (go_at_call 33; refine (has_no _ p nl cap _ _ h0 H.out).mono ?_; rintro e w' ⟨rfl, rfl⟩)
  go_ret2
  exact ⟨rfl, rfl⟩

theorem tmod_range (n m : Int) (hm : 0 < m) : -m < n.tmod m ∧ n.tmod m < m := ⟨by
    have := Int.lt_tmod_of_pos n hm; omega, Int.tmod_lt_of_pos n hm⟩
theorem emod_of_tmod (n m : Int) (hm : 0 < m) : n % m = if n.tmod m < 0 then n.tmod m + m else n.tmod m := by
  have h := Int.tmod_eq_emod (a := n) (b := m)
  have h0 := Int.emod_nonneg n (by omega : m ≠ 0)
  have h1 := Int.emod_lt_of_pos n hm
  split at h <;> split <;> omega

/-- n, taken into 0 to m-1. -/
theorem below_any (n m : Int) (w : World) (hm : 0 < m) (hb : m ≤ 1000000) :
    Calls Try.prog 17 #[.int .i64 n, .int .i64 m] w fun e w' => e = .returned (.int .i64 (n % m)) ∧ w = w' := by
  have h1 := tmod_range n m hm
  have h2 := Lib.hid (emod_of_tmod n m hm)
  have hz : (m == 0) = false := by simp; omega
  obtain ⟨t, ht⟩ : ∃ t, t = n.tmod m := ⟨_, rfl⟩
  rw [← ht] at h1
  have h3 : -1000000 < t := by omega
  have h4 : t < 1000000 := by omega
  have H := Lib.hid ht
  clear ht
  by_cases hneg : t < 0
  · have hneg' : n.tmod m < 0 := by rw [← H.out]; exact hneg
    have hneg'' : -1000000 < n.tmod m := by rw [← H.out]; exact h3
    go_enter Try.func17, Try.ntmps17
    go_wp2
    go_ret
    exact ⟨by rw [h2.out, if_pos hneg']; rfl, rfl⟩
  · have hneg' : ¬ n.tmod m < 0 := by rw [← H.out]; exact hneg
    have hneg'' : n.tmod m < 1000000 := by rw [← H.out]; exact h4
    go_enter Try.func17, Try.ntmps17
    go_wp2
    go_ret
    exact ⟨by rw [h2.out, if_neg (by omega)]; rfl, rfl⟩
end Go.Proofs.Ytadalodjnbnjkaa
