/- Plain: a net of two lanes, its state written out. -/
import Derived.Test.YtadalodjnbnjkaaPlain
import Derived.Test.YtadalodjnbnjkaaHold
namespace Go.Proofs.Ytadalodjnbnjkaa

theorem pushed_same (N : Nt) (i : Nat) (m : List Int) : (N.pushed i m).lane i = (N.lane i).push m := setL_same _ _ _
theorem pushed_other (N : Nt) {i j : Nat} (m : List Int) (h : j ≠ i) : (N.pushed i m).lane j = N.lane j := setL_other _ _ h
theorem delayed_same (N : Nt) (i t : Nat) (m : List Int) : (N.delayed i t m).lane i = { N.lane i with coming := (N.lane i).coming + 1 } := setL_same _ _ _
theorem delayed_other (N : Nt) {i j : Nat} (t : Nat) (m : List Int) (h : j ≠ i) : (N.delayed i t m).lane j = N.lane j := setL_other _ _ h
theorem closed_same (N : Nt) (i : Nat) : (N.closed i).lane i = { N.lane i with closed := true } := setL_same _ _ _
theorem closed_other (N : Nt) {i j : Nat} (h : j ≠ i) : (N.closed i).lane j = N.lane j := setL_other _ _ h
theorem popped_same (N : Nt) (i : Nat) : (N.popped i).lane i = (N.lane i).pop := setL_same _ _ _
theorem popped_other (N : Nt) {i j : Nat} (h : j ≠ i) : (N.popped i).lane j = N.lane j := setL_other _ _ h

structure Two (N : Nt) (F : List (Int × Int)) (s t : Nat) (L0 L1 : Lq) (late : List Ml) : Prop where
  nl : N.nl = 2
  fates : N.fates = F
  sent : N.sent = s
  now : N.now = t
  l0 : N.lane 0 = L0
  l1 : N.lane 1 = L1
  later : N.later = late

/-- The net of two lanes holds together. -/
structure Sane (F : List (Int × Int)) (s t : Nat) (L0 L1 : Lq) (late : List Ml) : Prop where
  may : ∀ f ∈ F, mayF f
  sent : s < 549755813888
  now : t < 549755813888
  len : late.length < 549755813888
  lates : ∀ x ∈ late, x.lane < 2 ∧ x.msg.length ≤ 1048576 ∧ x.due < 4398046511104
  c0 : L0.coming = cnt 0 late
  c1 : L1.coming = cnt 1 late

section
variable {N : Nt} {F : List (Int × Int)} {s t : Nat} {L0 L1 : Lq} {late : List Ml}
theorem Two.okn (h : Two N F s t L0 L1 late) (g : Sane F s t L0 L1 late) : Okn N where
  fates := by rw [h.fates]; exact g.may
  later := by rw [h.later, h.nl]; exact fun x hx => ⟨(g.lates x hx).1, (g.lates x hx).2.1⟩
  coming := fun i hi => by
    rw [h.later]
    rw [h.nl] at hi
    rcases i with _ | _ | i
    · rw [h.l0]; exact g.c0
    · show (N.lane 1).coming = _; rw [h.l1]; exact g.c1
    · omega
theorem Two.fine (h : Two N F s t L0 L1 late) (g : Sane F s t L0 L1 late) : Fine N :=
  ⟨h.okn g, by rw [h.now]; exact g.now, by rw [h.later]; exact g.len, by rw [h.later]; exact fun x hx => (g.lates x hx).2.2⟩
theorem Two.fit (h : Two N F s t L0 L1 late) (g : Sane F s t L0 L1 late) : Fit N :=
  ⟨(h.okn g).fates, by rw [h.sent]; exact g.sent, by rw [h.now]; exact g.now, by rw [h.later]; exact g.len, fun i hi => by rw [(h.okn g).coming i hi]; exact cnt_le _ _⟩
theorem Two.fateOf (h : Two N F s t L0 L1 late) : N.fateOf = F.getD s (0, 0) := by unfold Nt.fateOf; rw [h.fates, h.sent]
theorem Two.deliver0 (h : Two N F s t L0 L1 late) (m : List Int) {k : Int} (hf : F.getD s (0, 0) = (0, k)) : Two (N.send 0 m) F (s + 1) t (L0.push m) L1 late := by
  have e : N.send 0 m = N.took.pushed 0 m := by unfold Nt.send; rw [h.fateOf, hf]; simp [Nt.fated]
  rw [e]
  refine ⟨h.nl, h.fates, by show N.sent + 1 = _; rw [h.sent], h.now, ?_, ?_, h.later⟩
  · rw [pushed_same]; show (N.lane 0).push m = _; rw [h.l0]
  · rw [pushed_other _ _ (by omega)]; exact h.l1
theorem Two.deliver1 (h : Two N F s t L0 L1 late) (m : List Int) {k : Int} (hf : F.getD s (0, 0) = (0, k)) : Two (N.send 1 m) F (s + 1) t L0 (L1.push m) late := by
  have e : N.send 1 m = N.took.pushed 1 m := by unfold Nt.send; rw [h.fateOf, hf]; simp [Nt.fated]
  rw [e]
  refine ⟨h.nl, h.fates, by show N.sent + 1 = _; rw [h.sent], h.now, ?_, ?_, h.later⟩
  · rw [pushed_other _ _ (by omega)]; exact h.l0
  · rw [pushed_same]; show (N.lane 1).push m = _; rw [h.l1]
theorem Two.delay0 (h : Two N F s t L0 L1 late) (m : List Int) {d : Nat} (hd : 0 < d) (hf : F.getD s (0, 0) = (3, (d : Int))) :
    Two (N.send 0 m) F (s + 1) t { L0 with coming := L0.coming + 1 } L1 (late ++ [⟨t + d, 0, m⟩]) := by
  have e : N.send 0 m = N.took.delayed 0 d m := by
    unfold Nt.send; rw [h.fateOf, hf]; simp [Nt.fated, Nt.sendAt]; omega
  rw [e]
  refine ⟨h.nl, h.fates, by show N.sent + 1 = _; rw [h.sent], h.now, ?_, ?_, ?_⟩
  · rw [delayed_same]; show ({ N.lane 0 with coming := (N.lane 0).coming + 1 } : Lq) = _; rw [h.l0]
  · rw [delayed_other _ _ _ (by omega)]; exact h.l1
  · show N.later ++ [⟨N.now + d, 0, m⟩] = _; rw [h.later, h.now]
theorem Two.close0 (h : Two N F s t L0 L1 late) : Two (N.closed 0) F s t { L0 with closed := true } L1 late := by
  refine ⟨h.nl, h.fates, h.sent, h.now, ?_, ?_, h.later⟩
  · rw [closed_same, h.l0]
  · rw [closed_other _ (by omega)]; exact h.l1
theorem Two.pop0 (h : Two N F s t L0 L1 late) : Two (N.popped 0) F s t L0.pop L1 late := by
  refine ⟨h.nl, h.fates, h.sent, h.now, ?_, ?_, h.later⟩
  · rw [popped_same, h.l0]
  · rw [popped_other _ (by omega)]; exact h.l1
theorem Two.pop1 (h : Two N F s t L0 L1 late) : Two (N.popped 1) F s t L0 L1.pop late := by
  refine ⟨h.nl, h.fates, h.sent, h.now, ?_, ?_, h.later⟩
  · rw [popped_other _ (by omega)]; exact h.l0
  · rw [popped_same, h.l1]
theorem Two.at (h : Two N F s t L0 L1 late) (u : Nat) : Two (N.at u) F s u L0 L1 late := ⟨h.nl, h.fates, h.sent, rfl, h.l0, h.l1, h.later⟩
theorem Two.tick0 {m : List Int} {d : Nat} (h : Two N F s t L0 L1 [⟨d, 0, m⟩]) (hd : d ≤ t + 1) : Two N.tick F s (t + 1) (L0.take m) L1 [] := by
  rw [tick_one h.later (by rw [h.now]; exact hd)]
  refine ⟨h.nl, h.fates, h.sent, by show N.now + 1 = _; rw [h.now], ?_, ?_, rfl⟩
  · show setL N.lane 0 ((N.lane 0).take m) 0 = _; rw [setL_same, h.l0]
  · show setL N.lane 0 ((N.lane 0).take m) 1 = _; rw [setL_other _ _ (by omega)]; exact h.l1
theorem Two.start (F : List (Int × Int)) : Two (net0 2 F) F 0 0 lq0 lq0 [] := ⟨rfl, rfl, rfl, rfl, rfl, rfl, rfl⟩
end
end Go.Proofs.Ytadalodjnbnjkaa
