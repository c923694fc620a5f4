/- One lane of a net, as plain data: what else is in the net does not matter. -/
import Derived.Test.YtadalodjnbnjkaaSteps
namespace Go.Proofs.Ytadalodjnbnjkaa

structure One where
  now : Nat
  buf : List (List Int)
  late : List (Nat × List Int)
def pushB (b : List (List Int)) (m : List Int) : List (List Int) := if b.length < 64 then b ++ [m] else b
def lateOf (i : Nat) (X : List Ml) : List (Nat × List Int) := (X.filter fun x => x.lane == i).map fun x => (x.due, x.msg)
def view (i : Nat) (N : Nt) : One := ⟨N.now, (N.lane i).buf, lateOf i N.later⟩
theorem lateOf_append (i : Nat) (X Y : List Ml) : lateOf i (X ++ Y) = lateOf i X ++ lateOf i Y := by simp [lateOf]
theorem lateOf_yes {i : Nat} {x : Ml} (h : x.lane = i) (X : List Ml) : lateOf i (x :: X) = (x.due, x.msg) :: lateOf i X := by simp [lateOf, h]
theorem lateOf_no {i : Nat} {x : Ml} (h : x.lane ≠ i) (X : List Ml) : lateOf i (x :: X) = lateOf i X := by simp [lateOf, h]
theorem lateOf_nil (i : Nat) : lateOf i [] = [] := rfl

def One.step (nw : Nat) (S : List (List Int) × List (Nat × List Int)) (x : Nat × List Int) : List (List Int) × List (Nat × List Int) := if nw < x.1 then (S.1, S.2 ++ [x]) else (pushB S.1 x.2, S.2)
def One.ticked (o : One) : List (List Int) × List (Nat × List Int) := o.late.foldl (One.step (o.now + 1)) (o.buf, [])
def One.tick (o : One) : One := ⟨o.now + 1, o.ticked.1, o.ticked.2⟩
def One.ticks (o : One) : Nat → One
  | 0 => o
  | k + 1 => (o.ticks k).tick
def One.push (o : One) (m : List Int) : One := { o with buf := pushB o.buf m }
def One.sendAt (o : One) (t : Nat) (m : List Int) : One := if t = 0 then o.push m else { o with late := o.late ++ [(o.now + t, m)] }
def One.fated (o : One) (m : List Int) (f : Int × Int) : One :=
  if f.1 = 0 then o.push m
  else if f.1 = 1 then o
  else if f.1 = 2 then (o.push m).sendAt f.2.toNat m
  else if f.1 = 3 then o.sendAt f.2.toNat m
  else if f.1 = 4 then o.push (m.take f.2.toNat)
  else o.push (if f.2.toNat < m.length then spoilt m f.2.toNat else m)
def One.pop (o : One) : One := { o with buf := o.buf.tail }
def One.wait : Nat → One → Option (List Int) × One
  | t, o => match o.buf with
    | m :: ms => (some m, { o with buf := ms })
    | [] => match t with
      | 0 => (none, o)
      | t + 1 => One.wait t o.tick

/-! ### a net, seen at a lane -/
theorem view_fold (i nw : Nat) : ∀ (X : List Ml) (f : Nat → Lq) (acc : List Ml),
    (((X.foldl (tickStep nw) (f, acc)).1 i).buf, lateOf i (X.foldl (tickStep nw) (f, acc)).2) = (lateOf i X).foldl (One.step nw) ((f i).buf, lateOf i acc)
  | [], f, acc => rfl
  | x :: X, f, acc => by
    rw [List.foldl_cons]
    by_cases hl : x.lane = i
    · rw [lateOf_yes hl, List.foldl_cons]
      by_cases hd : nw < x.due
      · have e : tickStep nw (f, acc) x = (f, acc ++ [x]) := by simp [tickStep, hd]
        rw [e, view_fold i nw X, lateOf_append, lateOf_yes hl, lateOf_nil]
        simp [One.step, hd]
      · have e : tickStep nw (f, acc) x = (setL f x.lane ((f x.lane).take x.msg), acc) := by simp [tickStep, hd]
        rw [e, view_fold i nw X]
        subst hl
        rw [setL_same]
        simp [One.step, hd, Lq.take, Lq.push, pushB]
    · rw [lateOf_no hl]
      by_cases hd : nw < x.due
      · have e : tickStep nw (f, acc) x = (f, acc ++ [x]) := by simp [tickStep, hd]
        rw [e, view_fold i nw X, lateOf_append, lateOf_no hl, lateOf_nil, List.append_nil]
      · have e : tickStep nw (f, acc) x = (setL f x.lane ((f x.lane).take x.msg), acc) := by simp [tickStep, hd]
        rw [e, view_fold i nw X, setL_other _ _ (fun h => hl h.symm)]
theorem view_tick (i : Nat) (N : Nt) : view i N.tick = (view i N).tick := by
  have h := view_fold i (N.now + 1) N.later N.lane []
  have e : N.ticked N.later.length = N.later.foldl (tickStep (N.now + 1)) (N.lane, []) := by unfold Nt.ticked; rw [List.take_length]
  rw [← e] at h
  unfold view Nt.tick One.tick One.ticked
  simp only
  have h1 := congrArg Prod.fst h
  have h2 := congrArg Prod.snd h
  simp only [lateOf_nil] at h1 h2
  rw [h1, h2]
theorem view_ticks (i : Nat) (N : Nt) : ∀ k, view i (N.ticks k) = (view i N).ticks k
  | 0 => rfl
  | k + 1 => by show view i (N.ticks k).tick = ((view i N).ticks k).tick; rw [view_tick, view_ticks i N k]
theorem view_pushed (i : Nat) (N : Nt) (m : List Int) : view i (N.pushed i m) = (view i N).push m := by
  unfold view One.push
  rw [pushed_same]; rfl
theorem view_pushed_other {i j : Nat} (h : i ≠ j) (N : Nt) (m : List Int) : view i (N.pushed j m) = view i N := by
  unfold view
  rw [pushed_other _ _ h]; rfl
theorem view_sendAt (i t : Nat) (N : Nt) (m : List Int) : view i (N.sendAt i t m) = (view i N).sendAt t m := by
  unfold Nt.sendAt One.sendAt
  split
  · exact view_pushed i N m
  · unfold view
    rw [delayed_same]
    show (⟨N.now, (N.lane i).buf, lateOf i (N.later ++ [⟨N.now + t, i, m⟩])⟩ : One) = _
    rw [lateOf_append, lateOf_yes (x := ⟨N.now + t, i, m⟩) rfl, lateOf_nil]
theorem view_sendAt_other {i j : Nat} (h : i ≠ j) (t : Nat) (N : Nt) (m : List Int) : view i (N.sendAt j t m) = view i N := by
  unfold Nt.sendAt
  split
  · exact view_pushed_other h N m
  · unfold view
    rw [delayed_other _ _ _ h]
    show (⟨N.now, (N.lane i).buf, lateOf i (N.later ++ [⟨N.now + t, j, m⟩])⟩ : One) = _
    rw [lateOf_append, lateOf_no (fun e => h e.symm), lateOf_nil, List.append_nil]
theorem view_fated (i : Nat) (N : Nt) (m : List Int) (f : Int × Int) : view i (N.fated i m f) = (view i N).fated m f := by
  unfold Nt.fated One.fated
  split
  · exact view_pushed i N m
  · split
    · rfl
    · split
      · rw [view_sendAt, view_pushed]
      · split
        · exact view_sendAt i _ N m
        · split
          · exact view_pushed i N _
          · exact view_pushed i N _
theorem view_fated_other {i j : Nat} (h : i ≠ j) (N : Nt) (m : List Int) (f : Int × Int) : view i (N.fated j m f) = view i N := by
  unfold Nt.fated
  split
  · exact view_pushed_other h N m
  · split
    · rfl
    · split
      · rw [view_sendAt_other h, view_pushed_other h]
      · split
        · exact view_sendAt_other h _ N m
        · split
          · exact view_pushed_other h N _
          · exact view_pushed_other h N _
theorem view_took (i : Nat) (N : Nt) : view i N.took = view i N := rfl
theorem view_popped (i : Nat) (N : Nt) : view i (N.popped i) = (view i N).pop := by
  unfold view One.pop
  rw [popped_same]; rfl

/-- What is sent on a lane, each message with its fate and at its time. -/
def One.one (i : Nat) (o : One) (s : Snt) : One := if s.lane = i then (o.ticks s.gap).fated s.data s.fate else o.ticks s.gap
def One.run (i : Nat) (o : One) (S : List Snt) : One := S.foldl (One.one i) o

theorem fated_sent (N : Nt) (i : Nat) (m : List Int) (f : Int × Int) : (N.fated i m f).sent = N.sent ∧ (N.fated i m f).fates = N.fates := by
  unfold Nt.fated Nt.sendAt
  repeat' split
  all_goals exact ⟨rfl, rfl⟩
theorem view_run {i : Nat} {b1 b2 : Bool} : ∀ (S : List Snt) (N : Nt), (∀ s ∈ S, s.lane = i → sel b1 b2 s = true) → N.fates.drop N.sent = fatesOf b1 b2 S → view i (runS b1 b2 N S) = (view i N).run i S
  | [], N, _, _ => rfl
  | s :: S, N, hs, hf => by
    show view i (runS b1 b2 (stepS b1 b2 N s) S) = ((view i N).one i s).run i S
    have hd : (N.ticks s.gap).fates.drop (N.ticks s.gap).sent = fatesOf b1 b2 (s :: S) := by rw [ticks_fates, ticks_sent]; exact hf
    by_cases hsel : sel b1 b2 s = true
    · have hfo : fatesOf b1 b2 (s :: S) = s.fate :: fatesOf b1 b2 S := by simp [fatesOf, hsel]
      rw [hfo] at hd
      have hlt : (N.ticks s.gap).sent < (N.ticks s.gap).fates.length := by
        have := congrArg List.length hd
        rw [List.length_drop] at this
        simp at this
        omega
      rw [List.drop_eq_getElem_cons hlt] at hd
      have h1 := (List.cons.inj hd).1
      have h2 := (List.cons.inj hd).2
      have hfate : (N.ticks s.gap).fateOf = s.fate := by
        unfold Nt.fateOf
        rw [List.getD_eq_getElem?_getD, List.getElem?_eq_getElem hlt]; exact h1
      have e : stepS b1 b2 N s = ((N.ticks s.gap).took).fated s.lane s.data s.fate := by
        unfold stepS; rw [if_pos hsel]; unfold Nt.send; rw [hfate]
      rw [e, view_run S _ (fun t ht => hs t (by simp [ht]))]
      · unfold One.one
        by_cases hl : s.lane = i
        · rw [if_pos hl]
          subst hl
          rw [view_fated, view_took, view_ticks]
        · rw [if_neg hl, view_fated_other (fun h => hl h.symm), view_took, view_ticks]
      · rw [(fated_sent _ _ _ _).1, (fated_sent _ _ _ _).2]
        exact h2
    · have hfo : fatesOf b1 b2 (s :: S) = fatesOf b1 b2 S := by simp [fatesOf, hsel]
      have e : stepS b1 b2 N s = N.ticks s.gap := by unfold stepS; rw [if_neg hsel]
      have hl : s.lane ≠ i := fun h => hsel (hs s (by simp) h)
      rw [e, view_run S _ (fun t ht => hs t (by simp [ht])) (by rw [hd, hfo])]
      unfold One.one
      rw [if_neg hl, view_ticks]
end Go.Proofs.Ytadalodjnbnjkaa
