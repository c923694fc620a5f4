/- fate and send: what becomes of a message. -/
import Derived.Test.YtadalodjnbnjkaaNet
import Derived.Deep.QuietTactic
import Derived.BigQuiet
import Derived.Deep.RegionHeld3
import Derived.Deep.AppendLies
namespace Go.Proofs.Ytadalodjnbnjkaa
open Go.RowKit Go.Conc

/-- What fate leaves: the fate, and the count of messages one higher. -/
def Fated (w : World) (p : Nat) (lanes fv : Value) (sent : Nat) (now lv : Value) (k n : Int) (e : Ending) (w' : World) : Prop :=
  e = .returned (.agg #[.int .i64 k, .int .i64 n]) ∧ Mv (· = p) w w' ∧ w'.heap[p]? = some (.cells #[lanes, fv, .int .i64 ((sent + 1 : Nat) : Int), now, lv] 82 (0, 0))

theorem Mv.drewN {F : Nat → Prop} {a w : World} (h : Mv F a w) (n : Nat) : Mv F a (w.drewN n) := ⟨h.os, h.tape, h.output, h.size, h.block⟩

theorem fated_of {w w1 : World} {p : Nat} {lanes fv now lv : Value} {sent : Nat} {C : Array Value} (hp : w.heap[p]? = some (.cells C 82 (0, 0)))
    (hC : C.setIfInBounds 2 (.int .i64 ((sent + 1 : Nat) : Int)) = #[lanes, fv, .int .i64 ((sent + 1 : Nat) : Int), now, lv])
    (hb : Mv (fun _ => False) w w1) (x : Value) (hx : x = .int .i64 ((sent + 1 : Nat) : Int)) (u v : Value) (q : Nat) (hq : w.heap.size ≤ q) :
    Mv (· = p) w (((w1.setCell ⟨p, 2, none⟩ x).setCell ⟨q, 0, none⟩ u).setCell ⟨q, 1, none⟩ v) ∧
      (((w1.setCell ⟨p, 2, none⟩ x).setCell ⟨q, 0, none⟩ u).setCell ⟨q, 1, none⟩ v).heap[p]? = some (.cells #[lanes, fv, .int .i64 ((sent + 1 : Nat) : Int), now, lv] 82 (0, 0)) := by
  subst hx
  have hl := lt_of_heap hp
  have h1 := (hb.block p hl id).trans hp
  refine ⟨Mv.setCell (Mv.setCell (Mv.setCell (F := fun x => x = p) (hb.mono (fun _ _ h => h.elim)) (.inl rfl) _) (.inr hq) _) (.inr hq) _, ?_⟩
  rw [heap_setCell_other (by omega), heap_setCell_other (by omega), heap_setCell_same h1 _, hC]

set_option maxHeartbeats 800000 in
/-- Behind the last fate every message is delivered. -/
theorem fate_none (w : World) (p nf cap sent : Nat) (lanes now lv : Value) (fa : Option Addr) (hp : w.heap[p]? = some (.cells #[lanes, .slice fa nf cap, .int .i64 sent, now, lv] 82 (0, 0)))
    (hs : nf ≤ sent) (hb : sent < 1099511627776) : Calls Try.prog 34 #[.pointer (some ⟨p, 0, none⟩)] w (Fated w p lanes (.slice fa nf cap) sent now lv 0 0) := by
  have h1 : w.cell? ⟨p, 1, none⟩ = some (.slice fa nf cap) := cell_of_heap hp 1 rfl
  have h2 : w.cell? ⟨p, 2, none⟩ = some (.int .i64 sent) := cell_of_heap hp 2 rfl
  have hf := free_of_heap hp 2
  have hpl := lt_of_heap hp
  have HP := Lib.hid hp
  have hlt : decide ((sent : Int) < nf) = false := by simp; omega
  clear hp
  go_enter Try.func34, Try.ntmps34
  go_wp2_with fail
  go_quiet (fail)
  go_wp2_with fail
  refine bodyPost_ret (v := .agg #[.int .i64 0, .int .i64 0]) (by simp [results, Try.results34, go_sem]) rfl ?_
  exact ⟨rfl, fated_of HP.out (by simp) ((((Mv.refl _ _).alloc _).alloc _).drewN _) _ (by go_num) _ _ _ (Nat.le_refl _)⟩

set_option maxHeartbeats 800000 in
theorem fate_some (w : World) (p nf cap sent b : Nat) (lanes now lv : Value) (k n : Int) (hp : w.heap[p]? = some (.cells #[lanes, .slice (some ⟨b, 0, none⟩) nf cap, .int .i64 sent, now, lv] 82 (0, 0)))
    (hs : sent < nf) (hb : sent < 1099511627776) (hk : w.cell? ⟨b, sent * 2, none⟩ = some (.int .i64 k)) (hn : w.cell? ⟨b, sent * 2 + 1, none⟩ = some (.int .i64 n)) :
    Calls Try.prog 34 #[.pointer (some ⟨p, 0, none⟩)] w (Fated w p lanes (.slice (some ⟨b, 0, none⟩) nf cap) sent now lv k n) := by
  have h1 : w.cell? ⟨p, 1, none⟩ = some (.slice (some ⟨b, 0, none⟩) nf cap) := cell_of_heap hp 1 rfl
  have h2 : w.cell? ⟨p, 2, none⟩ = some (.int .i64 sent) := cell_of_heap hp 2 rfl
  have hf := free_of_heap hp 2
  have hpl := lt_of_heap hp
  have hbl := World.block_lt_of_cell? w _ hk
  have HP := Lib.hid hp
  have hlt : decide ((sent : Int) < nf) = true := by simp; omega
  have hlt' : (sent : Int) < nf := by omega
  have h0 : (0 : Int) ≤ sent := by omega
  clear hp
  go_enter Try.func34, Try.ntmps34
  go_wp2_with fail
  go_quiet (fail)
  go_wp2_with fail
  go_region
  go_wp2
  refine bodyPost_ret (v := .agg #[.int .i64 k, .int .i64 n]) (by simp [results, Try.results34, go_sem]) rfl ?_
  refine ⟨rfl, fated_of HP.out (by simp) ?_ _ (by go_num) _ _ _ (Nat.le_refl _)⟩
  exact ((((Mv.refl _ _).alloc _).alloc _).drewN _).setCell (.inr (by simp)) _ |>.setCell (.inr (by simp)) _
end Go.Proofs.Ytadalodjnbnjkaa
