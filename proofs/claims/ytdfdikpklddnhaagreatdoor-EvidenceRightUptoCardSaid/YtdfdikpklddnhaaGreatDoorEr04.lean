/- sha.turn. -/
import Derived.Test.YtdfdikpklddnhaaGreatDoorEr02
import Derived.Test.YtdfdikpklddnhaaGreatDoorEr03
import Derived.Test.YtdfdikpklddnhaaGreatDoorProg
import Derived.Deep.QuietTactic
import Derived.BigQuiet
namespace Go.Proofs.YtdfdikpklddnhaaGreatDoor
open Go.RowKit

theorem rot_int (x : UInt32) (n a b : Nat) (h0 : 0 < n) (h1 : n < 32) (ha : a = 2 ^ n) (hb : b = 2 ^ (32 - n)) :
    Go.bits .or .u32 ((x.toNat : Int) / (a : Int)) ((x.toNat : Int) * (b : Int) % 4294967296) = ((rotr x n).toNat : Int) := by
  have hx := x.toNat_lt
  have e1 : ((x.toNat : Int) / (a : Int)) = ((x.toNat / a : Nat) : Int) := by rw [Int.natCast_ediv]
  have e2 : ((x.toNat : Int) * (b : Int) % 4294967296) = ((x.toNat * b % 4294967296 : Nat) : Int) := by rw [Int.natCast_emod, Int.natCast_mul]; rfl
  rw [e1, e2, u32_or_nat _ _ (Nat.lt_of_le_of_lt (Nat.div_le_self _ _) hx) (Nat.mod_lt _ (by decide))]
  congr 1
  have e3 : (UInt32.ofNat n).toNat = n := by rw [UInt32.toNat_ofNat']; exact Nat.mod_eq_of_lt (by omega)
  have e4 : (UInt32.ofNat (32 - n)).toNat = 32 - n := by rw [UInt32.toNat_ofNat']; exact Nat.mod_eq_of_lt (by omega)
  unfold rotr
  rw [UInt32.toNat_or, UInt32.toNat_shiftRight, UInt32.toNat_shiftLeft, e3, e4, Nat.mod_eq_of_lt h1, Nat.mod_eq_of_lt (by omega : 32 - n < 32), Nat.shiftRight_eq_div_pow, Nat.shiftLeft_eq, ha, hb]
set_option maxRecDepth 100000 in
set_option maxHeartbeats 1600000 in
theorem turn_any (x : UInt32) (n : Nat) (hn : n = 2 ∨ n = 13 ∨ n = 22 ∨ n = 6 ∨ n = 11 ∨ n = 25 ∨ n = 7 ∨ n = 18 ∨ n = 17 ∨ n = 19) (w : World) :
    Calls Tryz.prog 282 #[.int .u32 x.toNat, .int .i64 n, .int .i64 32] w fun e w' => e = .returned (.int .u32 (rotr x n).toNat) ∧ ∃ m, w' = w.drewN m := by
  have hx := x.toNat_lt
  rcases hn with rfl | rfl | rfl | rfl | rfl | rfl | rfl | rfl | rfl | rfl
  all_goals go_enter Tryz.func282, Tryz.ntmps282
  all_goals go_wp2_with fail
  all_goals go_quiet (fail)
  all_goals go_wp2
  all_goals go_ret
  · exact ⟨by rw [← rot_int x 2 4 1073741824 (by decide) (by decide) (by decide) (by decide)]; rfl, _, rfl⟩
  · exact ⟨by rw [← rot_int x 13 8192 524288 (by decide) (by decide) (by decide) (by decide)]; rfl, _, rfl⟩
  · exact ⟨by rw [← rot_int x 22 4194304 1024 (by decide) (by decide) (by decide) (by decide)]; rfl, _, rfl⟩
  · exact ⟨by rw [← rot_int x 6 64 67108864 (by decide) (by decide) (by decide) (by decide)]; rfl, _, rfl⟩
  · exact ⟨by rw [← rot_int x 11 2048 2097152 (by decide) (by decide) (by decide) (by decide)]; rfl, _, rfl⟩
  · exact ⟨by rw [← rot_int x 25 33554432 128 (by decide) (by decide) (by decide) (by decide)]; rfl, _, rfl⟩
  · exact ⟨by rw [← rot_int x 7 128 33554432 (by decide) (by decide) (by decide) (by decide)]; rfl, _, rfl⟩
  · exact ⟨by rw [← rot_int x 18 262144 16384 (by decide) (by decide) (by decide) (by decide)]; rfl, _, rfl⟩
  · exact ⟨by rw [← rot_int x 17 131072 32768 (by decide) (by decide) (by decide) (by decide)]; rfl, _, rfl⟩
  · exact ⟨by rw [← rot_int x 19 524288 8192 (by decide) (by decide) (by decide) (by decide)]; rfl, _, rfl⟩
/-- A quiet call in a second quiet region. -/
theorem quiet_more {P : Program} {f : FuncId} {args : Array Value} {w : World} {a n : Nat} {v : Value}
    (h : ∀ W, Calls P f args W fun e w' => e = .returned v ∧ ∃ m, w' = W.drewN m) : Calls P f args (w.drewN (a + n)) fun e w'' => e = .returned v ∧ ∃ m, w'' = w.drewN (a + m) := by
  refine (h _).mono ?_
  rintro e w' ⟨he, m, rfl⟩
  exact ⟨he, n + m, by rw [World.drewN_drewN, Nat.add_assoc]⟩
/-- The same at a number as the walk shows it. -/
theorem turn_k (x : UInt32) (k : Int) (hk : k = 2 ∨ k = 13 ∨ k = 22 ∨ k = 6 ∨ k = 11 ∨ k = 25 ∨ k = 7 ∨ k = 18 ∨ k = 17 ∨ k = 19) (w : World) :
    Calls Tryz.prog 282 #[.int .u32 x.toNat, .int .i64 k, .int .i64 32] w fun e w' => e = .returned (.int .u32 (rotr x k.toNat).toNat) ∧ ∃ m, w' = w.drewN m := by
  have h := turn_any x k.toNat (by omega) w
  rw [show ((k.toNat : Nat) : Int) = k by omega] at h
  exact h
end Go.Proofs.YtdfdikpklddnhaaGreatDoor
