/- Plain: time that goes by without anything due; what a wait comes to. -/
import Derived.Test.YtadalodjnbnjkaaWait0
namespace Go.Proofs.Ytadalodjnbnjkaa

def Nt.at (N : Nt) (t : Nat) : Nt := { N with now := t }
theorem foldl_quiet (nw : Nat) : ∀ (L : List Ml) (f : Nat → Lq) (acc : List Ml), (∀ x ∈ L, nw < x.due) → L.foldl (tickStep nw) (f, acc) = (f, acc ++ L)
  | [], f, acc, _ => by simp
  | x :: L, f, acc, h => by
    have hx : nw < x.due := h x (by simp)
    rw [List.foldl_cons]
    have : tickStep nw (f, acc) x = (f, acc ++ [x]) := by simp [tickStep, hx]
    rw [this, foldl_quiet nw L f _ (fun y hy => h y (by simp [hy]))]
    simp
theorem tick_quiet {N : Nt} (h : ∀ x ∈ N.later, N.now + 1 < x.due) : N.tick = N.at (N.now + 1) := by
  have e : N.ticked N.later.length = (N.lane, N.later) := by
    unfold Nt.ticked
    rw [List.take_length, foldl_quiet _ _ _ _ h]; simp
  unfold Nt.tick Nt.at
  rw [e]
theorem ticks_quiet {N : Nt} : ∀ (r : Nat), (∀ x ∈ N.later, N.now + r < x.due) → N.ticks r = N.at (N.now + r)
  | 0, _ => rfl
  | r + 1, h => by
    show (N.ticks r).tick = _
    have ih := ticks_quiet (N := N) r (fun x hx => by have := h x hx; omega)
    rw [ih]
    have : (N.at (N.now + r)).tick = (N.at (N.now + r)).at (N.now + r + 1) := tick_quiet (N := N.at (N.now + r)) (fun x hx => by have := h x hx; show N.now + r + 1 < x.due; omega)
    rw [this]; rfl
/-- Nothing is there, nothing comes for r ticks: the wait goes on from there. -/
theorem waitGo_quiet {N : Nt} {ls : List Nat} : ∀ (r t : Nat), fstO N ls = none → allB N ls = false → (∀ x ∈ N.later, N.now + r < x.due) → Nt.waitGo ls (r + t) N = Nt.waitGo ls t (N.at (N.now + r))
  | 0, t, _, _, _ => by rw [Nat.zero_add]; rfl
  | r + 1, t, h1, h2, h3 => by
    have e : r + 1 + t = (r + t) + 1 := by omega
    rw [e, waitGo_succ h1 h2, tick_quiet (fun x hx => by have := h3 x hx; omega)]
    have := waitGo_quiet (N := N.at (N.now + 1)) (ls := ls) r t h1 h2 (fun x hx => by have := h3 x hx; show N.now + 1 + r < x.due; omega)
    rw [this]
    show Nt.waitGo ls t ((N.at (N.now + 1)).at (N.now + 1 + r)) = _
    have e2 : N.now + 1 + r = N.now + (r + 1) := by omega
    rw [e2]; rfl
theorem waitGo_out {N : Nt} {ls : List Nat} (r : Nat) (h1 : fstO N ls = none) (h2 : allB N ls = false) (h3 : ∀ x ∈ N.later, N.now + r < x.due) : Nt.waitGo ls r N = ⟨0, none, 190, N.at (N.now + r)⟩ := by
  have := waitGo_quiet (N := N) (ls := ls) r 0 h1 h2 h3
  rw [Nat.add_zero] at this
  rw [this]
  exact waitGo_zero (N := N.at (N.now + r)) h1 h2
theorem fstO_one (N : Nt) (i : Nat) : fstO N [i] = if hasMsg (N.lane i) then some i else none := by
  unfold fstO; simp [List.find?_cons]
  cases hasMsg (N.lane i) <;> rfl
theorem allB_one (N : Nt) (i : Nat) : allB N [i] = overB (N.lane i) := by simp [allB]
/-- A message that waits on lane i is taken. -/
theorem waitGo_has {N : Nt} {i t : Nat} {m : List Int} {ms : List (List Int)} (h : (N.lane i).buf = m :: ms) : Nt.waitGo [i] t N = ⟨i, some m, 0, N.popped i⟩ := by
  have : fstO N [i] = some i := by rw [fstO_one]; simp [hasMsg, h]
  rw [waitGo_some this, h]; rfl
theorem waitGo_end {N : Nt} {i t : Nat} (h : (N.lane i).buf = []) (hs : (N.lane i).shut = true) : Nt.waitGo [i] t N = ⟨0, none, 191, N⟩ := by
  have h1 : fstO N [i] = none := by rw [fstO_one]; simp [hasMsg, h]
  have h2 : allB N [i] = true := by rw [allB_one]; simp [overB, h, hs]
  exact waitGo_over h1 h2 t
theorem fstO_empty {N : Nt} {i : Nat} (h : (N.lane i).buf = []) : fstO N [i] = none := by rw [fstO_one]; simp [hasMsg, h]
theorem allB_open {N : Nt} {i : Nat} (h : (N.lane i).shut = false) : allB N [i] = false := by rw [allB_one]; simp [overB, h]
/-- One message is late, and is due at the next tick. -/
theorem tick_one {N : Nt} {x : Ml} (h : N.later = [x]) (hd : x.due ≤ N.now + 1) : N.tick = { N with now := N.now + 1, lane := setL N.lane x.lane ((N.lane x.lane).take x.msg), later := [] } := by
  have e : N.ticked N.later.length = (setL N.lane x.lane ((N.lane x.lane).take x.msg), []) := by
    unfold Nt.ticked
    rw [h]
    have : ¬ N.now + 1 < x.due := by omega
    simp [tickStep, this]
  unfold Nt.tick
  rw [e]
end Go.Proofs.Ytadalodjnbnjkaa
