/- Plain: a net of two lanes, its state written out. -/
import Derived.Test.YtadalodjnbnjkaaPlay06
import Derived.Test.YtadalodjnbnjkaaPlay08
namespace Go.Proofs.Ytadalodjnbnjkaa

theorem pushed_same (N : Nt) (i : Nat) (m : List Int) : (N.pushed i m).lane i = (N.lane i).push m := setL_same _ _ _
theorem pushed_other (N : Nt) {i j : Nat} (m : List Int) (h : j ≠ i) : (N.pushed i m).lane j = N.lane j := setL_other _ _ h
theorem delayed_same (N : Nt) (i t : Nat) (m : List Int) : (N.delayed i t m).lane i = { N.lane i with coming := (N.lane i).coming + 1 } := setL_same _ _ _
theorem delayed_other (N : Nt) {i j : Nat} (t : Nat) (m : List Int) (h : j ≠ i) : (N.delayed i t m).lane j = N.lane j := setL_other _ _ h
theorem closed_same (N : Nt) (i : Nat) : (N.closed i).lane i = { N.lane i with closed := true } := setL_same _ _ _
theorem closed_other (N : Nt) {i j : Nat} (h : j ≠ i) : (N.closed i).lane j = N.lane j := setL_other _ _ h
theorem popped_same (N : Nt) (i : Nat) : (N.popped i).lane i = (N.lane i).pop := setL_same _ _ _
theorem popped_other (N : Nt) {i j : Nat} (h : j ≠ i) : (N.popped i).lane j = N.lane j := setL_other _ _ h

structure Two (N : Nt) (F : List (Int × Int)) (s t : Nat) (L0 L1 : Lq) (late : List Ml) : Prop where
  nl : N.nl = 2
  fates : N.fates = F
  sent : N.sent = s
  now : N.now = t
  l0 : N.lane 0 = L0
  l1 : N.lane 1 = L1
  later : N.later = late

/-- The net of two lanes holds together. -/
structure Sane (F : List (Int × Int)) (s t : Nat) (L0 L1 : Lq) (late : List Ml) : Prop where
  may : ∀ f ∈ F, mayF f
  sent : s < 549755813888
  now : t < 549755813888
  len : late.length < 549755813888
  lates : ∀ x ∈ late, x.lane < 2 ∧ x.msg.length ≤ 1048576 ∧ x.due < 4398046511104
  c0 : L0.coming = cnt 0 late
  c1 : L1.coming = cnt 1 late

section
variable {N : Nt} {F : List (Int × Int)} {s t : Nat} {L0 L1 : Lq} {late : List Ml}
theorem Two.okn (h : Two N F s t L0 L1 late) (g : Sane F s t L0 L1 late) : Okn N where
  fates := by rw [h.fates]; exact g.may
  later := by rw [h.later, h.nl]; exact fun x hx => ⟨(g.lates x hx).1, (g.lates x hx).2.1⟩
  coming := fun i hi => by
    rw [h.later]
    rw [h.nl] at hi
    rcases i with _ | _ | i
    · rw [h.l0]; exact g.c0
    · show (N.lane 1).coming = _; rw [h.l1]; exact g.c1
    · omega
theorem Two.fine (h : Two N F s t L0 L1 late) (g : Sane F s t L0 L1 late) : Fine N :=
  ⟨h.okn g, by rw [h.now]; exact g.now, by rw [h.later]; exact g.len, by rw [h.later]; exact fun x hx => (g.lates x hx).2.2⟩
theorem Two.fit (h : Two N F s t L0 L1 late) (g : Sane F s t L0 L1 late) : Fit N :=
  ⟨(h.okn g).fates, by rw [h.sent]; exact g.sent, by rw [h.now]; exact g.now, by rw [h.later]; exact g.len, fun i hi => by rw [(h.okn g).coming i hi]; exact cnt_le _ _⟩
theorem Two.fateOf (h : Two N F s t L0 L1 late) : N.fateOf = F.getD s (0, 0) := by unfold Nt.fateOf; rw [h.fates, h.sent]
theorem Two.deliver0 (h : Two N F s t L0 L1 late) (m : List Int) {k : Int} (hf : F.getD s (0, 0) = (0, k)) : Two (N.send 0 m) F (s + 1) t (L0.push m) L1 late := by
  have e : N.send 0 m = N.took.pushed 0 m := by unfold Nt.send; rw [h.fateOf, hf]; simp [Nt.fated]
  rw [e]
  refine ⟨h.nl, h.fates, by show N.sent + 1 = _; rw [h.sent], h.now, ?_, ?_, h.later⟩
  · rw [pushed_same]; show (N.lane 0).push m = _; rw [h.l0]
  · rw [pushed_other _ _ (by omega)]; exact h.l1
theorem Two.deliver1 (h : Two N F s t L0 L1 late) (m : List Int) {k : Int} (hf : F.getD s (0, 0) = (0, k)) : Two (N.send 1 m) F (s + 1) t L0 (L1.push m) late := by
  have e : N.send 1 m = N.took.pushed 1 m := by unfold Nt.send; rw [h.fateOf, hf]; simp [Nt.fated]
  rw [e]
  refine ⟨h.nl, h.fates, by show N.sent + 1 = _; rw [h.sent], h.now, ?_, ?_, h.later⟩
  · rw [pushed_other _ _ (by omega)]; exact h.l0
  · rw [pushed_same]; show (N.lane 1).push m = _; rw [h.l1]
theorem Two.delay0 (h : Two N F s t L0 L1 late) (m : List Int) {d : Nat} (hd : 0 < d) (hf : F.getD s (0, 0) = (3, (d : Int))) :
    Two (N.send 0 m) F (s + 1) t { L0 with coming := L0.coming + 1 } L1 (late ++ [⟨t + d, 0, m⟩]) := by
  have e : N.send 0 m = N.took.delayed 0 d m := by
    unfold Nt.send; rw [h.fateOf, hf]; simp [Nt.fated, Nt.sendAt]; omega
  rw [e]
  refine ⟨h.nl, h.fates, by show N.sent + 1 = _; rw [h.sent], h.now, ?_, ?_, ?_⟩
  · rw [delayed_same]; show ({ N.lane 0 with coming := (N.lane 0).coming + 1 } : Lq) = _; rw [h.l0]
  · rw [delayed_other _ _ _ (by omega)]; exact h.l1
  · show N.later ++ [⟨N.now + d, 0, m⟩] = _; rw [h.later, h.now]
theorem Two.close0 (h : Two N F s t L0 L1 late) : Two (N.closed 0) F s t { L0 with closed := true } L1 late := by
  refine ⟨h.nl, h.fates, h.sent, h.now, ?_, ?_, h.later⟩
  · rw [closed_same, h.l0]
  · rw [closed_other _ (by omega)]; exact h.l1
theorem Two.pop0 (h : Two N F s t L0 L1 late) : Two (N.popped 0) F s t L0.pop L1 late := by
  refine ⟨h.nl, h.fates, h.sent, h.now, ?_, ?_, h.later⟩
  · rw [popped_same, h.l0]
  · rw [popped_other _ (by omega)]; exact h.l1
theorem Two.pop1 (h : Two N F s t L0 L1 late) : Two (N.popped 1) F s t L0 L1.pop late := by
  refine ⟨h.nl, h.fates, h.sent, h.now, ?_, ?_, h.later⟩
  · rw [popped_other _ (by omega)]; exact h.l0
  · rw [popped_same, h.l1]
theorem Two.at (h : Two N F s t L0 L1 late) (u : Nat) : Two (N.at u) F s u L0 L1 late := ⟨h.nl, h.fates, h.sent, rfl, h.l0, h.l1, h.later⟩
theorem Two.tick0 {m : List Int} {d : Nat} (h : Two N F s t L0 L1 [⟨d, 0, m⟩]) (hd : d ≤ t + 1) : Two N.tick F s (t + 1) (L0.take m) L1 [] := by
  rw [tick_one h.later (by rw [h.now]; exact hd)]
  refine ⟨h.nl, h.fates, h.sent, by show N.now + 1 = _; rw [h.now], ?_, ?_, rfl⟩
  · show setL N.lane 0 ((N.lane 0).take m) 0 = _; rw [setL_same, h.l0]
  · show setL N.lane 0 ((N.lane 0).take m) 1 = _; rw [setL_other _ _ (by omega)]; exact h.l1
theorem Two.start (F : List (Int × Int)) : Two (net0 2 F) F 0 0 lq0 lq0 [] := ⟨rfl, rfl, rfl, rfl, rfl, rfl, rfl⟩
end
end Go.Proofs.Ytadalodjnbnjkaa

/- Plain: messages sent one behind the other, ticks between them. -/
namespace Go.Proofs.Ytadalodjnbnjkaa

structure Snt where
  gap : Nat
  lane : Nat
  data : List Int
  fate : Int × Int

def sel (b1 b2 : Bool) (s : Snt) : Bool := (s.lane == 0 && b1) || (s.lane == 1 && b2)
def fatesOf (b1 b2 : Bool) (S : List Snt) : List (Int × Int) := (S.filter (sel b1 b2)).map (·.fate)
def stepS (b1 b2 : Bool) (N : Nt) (s : Snt) : Nt := if sel b1 b2 s = true then (N.ticks s.gap).send s.lane s.data else N.ticks s.gap
def runS (b1 b2 : Bool) (N : Nt) (S : List Snt) : Nt := S.foldl (stepS b1 b2) N
def sendsN (b1 b2 : Bool) (S : List Snt) : Nt := runS b1 b2 (net0 2 (fatesOf b1 b2 S)) S
def gaps : List Snt → Nat
  | [] => 0
  | s :: S => s.gap + gaps S
theorem gaps_append (S T : List Snt) : gaps (S ++ T) = gaps S + gaps T := by
  induction S with
  | nil => simp [gaps]
  | cons s S ih => simp only [List.cons_append, gaps, ih]; omega
theorem runS_append (b1 b2 : Bool) (N : Nt) (S T : List Snt) : runS b1 b2 N (S ++ T) = runS b1 b2 (runS b1 b2 N S) T := by simp [runS]

def TameS (s : Snt) : Prop := s.gap ≤ 20 ∧ s.lane < 2 ∧ s.data.length ≤ 4096 ∧ mayF s.fate

/-! ### what a tick, a send keep -/
theorem foldl_closed (nw : Nat) (i : Nat) : ∀ (L : List Ml) (S : (Nat → Lq) × List Ml), ((L.foldl (tickStep nw) S).1 i).closed = (S.1 i).closed
  | [], _ => rfl
  | x :: L, S => by
    rw [List.foldl_cons, foldl_closed nw i L]
    unfold tickStep
    split
    · rfl
    · by_cases h : i = x.lane
      · subst h; simp only [setL_same, Lq.take, Lq.push]
      · simp only [setL_other _ _ h]
theorem tick_closed (N : Nt) (i : Nat) : (N.tick.lane i).closed = (N.lane i).closed := foldl_closed _ i _ _
theorem ticks_closed (N : Nt) (i : Nat) : ∀ k, ((N.ticks k).lane i).closed = (N.lane i).closed
  | 0 => rfl
  | k + 1 => by show (((N.ticks k).tick).lane i).closed = _; rw [tick_closed, ticks_closed N i k]
theorem ticks_sent (N : Nt) : ∀ k, (N.ticks k).sent = N.sent
  | 0 => rfl
  | k + 1 => by show (N.ticks k).sent = _; exact ticks_sent N k
theorem ticks_fates (N : Nt) : ∀ k, (N.ticks k).fates = N.fates
  | 0 => rfl
  | k + 1 => by show (N.ticks k).fates = _; exact ticks_fates N k

/-- What a message that is sent does not change, and what may join. -/
structure SentTo (N N' : Nt) (i : Nat) (m : List Int) : Prop where
  nl : N'.nl = N.nl
  fates : N'.fates = N.fates
  sent : N'.sent = N.sent + 1
  now : N'.now = N.now
  closed : ∀ j, (N'.lane j).closed = (N.lane j).closed
  later : N'.later = N.later ∨ ∃ k, k ≤ 1000 ∧ N'.later = N.later ++ [⟨N.now + k, i, m⟩]
  coming : ∀ j, (N'.lane j).coming + cnt j N.later = (N.lane j).coming + cnt j N'.later

theorem pushed_coming (N : Nt) (i j : Nat) (m : List Int) : ((N.pushed i m).lane j).coming = (N.lane j).coming := by
  by_cases h : j = i
  · subst h; rw [pushed_same]; rfl
  · rw [pushed_other _ _ h]
theorem pushed_closed (N : Nt) (i j : Nat) (m : List Int) : ((N.pushed i m).lane j).closed = (N.lane j).closed := by
  by_cases h : j = i
  · subst h; rw [pushed_same]; rfl
  · rw [pushed_other _ _ h]
theorem SentTo.push (N : Nt) (i : Nat) (m m' : List Int) : SentTo N (N.took.pushed i m') i m :=
  ⟨rfl, rfl, rfl, rfl, fun j => pushed_closed N.took i j m', .inl rfl, fun j => by rw [pushed_coming]; rfl⟩
theorem delayed_coming (N : Nt) (i t j : Nat) (m : List Int) : ((N.delayed i t m).lane j).coming = (N.lane j).coming + (if j = i then 1 else 0) := by
  by_cases h : j = i
  · subst h; rw [delayed_same]; simp
  · rw [delayed_other _ _ _ h]; simp [h]
theorem delayed_closed (N : Nt) (i t j : Nat) (m : List Int) : ((N.delayed i t m).lane j).closed = (N.lane j).closed := by
  by_cases h : j = i
  · subst h; rw [delayed_same]
  · rw [delayed_other _ _ _ h]
theorem SentTo.at {N M : Nt} {i t : Nat} {m : List Int} (h : SentTo N M i m) (hl : M.later = N.later) (ht : t ≤ 1000) : SentTo N (M.sendAt i t m) i m := by
  unfold Nt.sendAt
  split
  · exact ⟨h.nl, h.fates, h.sent, h.now, fun j => (pushed_closed M i j m).trans (h.closed j), h.later, fun j => by rw [pushed_coming]; exact h.coming j⟩
  · have hlt : (M.delayed i t m).later = N.later ++ [⟨N.now + t, i, m⟩] := by
      show M.later ++ [⟨M.now + t, i, m⟩] = _
      rw [hl, h.now]
    refine ⟨h.nl, h.fates, h.sent, h.now, fun j => (delayed_closed M i t j m).trans (h.closed j), .inr ⟨t, ht, hlt⟩, fun j => ?_⟩
    have hc := h.coming j
    rw [hl] at hc
    rw [delayed_coming, hlt, cnt_append, cnt_cons, cnt_nil]
    by_cases hj : j = i
    · subst hj; simp; omega
    · have : i ≠ j := fun e => hj e.symm
      simp [hj, this]; omega
theorem send_to (N : Nt) (i : Nat) (m : List Int) (h : mayF N.fateOf) : SentTo N (N.send i m) i m := by
  unfold Nt.send Nt.fated
  have T0 : SentTo N N.took i m := ⟨rfl, rfl, rfl, rfl, fun _ => rfl, .inl rfl, fun _ => rfl⟩
  rcases h with h | h | ⟨h, h1, h2⟩ | ⟨h, h1, h2⟩
  · simp only [h, if_true]; exact SentTo.push N i m m
  · simp only [h, if_true]; exact T0
  · rcases h with h | h
    · simp only [h, if_true]
      exact (SentTo.push N i m m).at rfl (by omega)
    · simp only [h, if_true]
      exact T0.at rfl (by omega)
  · rcases h with h | h
    · simp only [h, if_true]; exact SentTo.push N i m _
    · rw [h]; exact SentTo.push N i m _

/-- A net that sends have made. -/
structure RunOk (N : Nt) (k : Nat) : Prop where
  nl : N.nl = 2
  ok : Okn N
  sent : N.sent ≤ k
  len : N.later.length ≤ k
  now : N.now ≤ 20 * k
  due : ∀ x ∈ N.later, x.due ≤ 20 * k + 1000
  opn : ∀ i, (N.lane i).closed = false

theorem RunOk.fine {N : Nt} {k : Nat} (h : RunOk N k) (hk : k ≤ 100) : Fine N :=
  ⟨h.ok, by have := h.now; omega, by have := h.len; omega, fun x hx => by have := h.due x hx; omega⟩
theorem RunOk.fit {N : Nt} {k : Nat} (h : RunOk N k) (hk : k ≤ 100) : Fit N :=
  ⟨h.ok.fates, by have := h.sent; omega, by have := h.now; omega, by have := h.len; omega, fun i hi => by rw [h.ok.coming i hi]; exact cnt_le _ _⟩
theorem RunOk.start (F : List (Int × Int)) (hF : ∀ f ∈ F, mayF f) : RunOk (net0 2 F) 0 :=
  ⟨rfl, ⟨hF, fun x hx => by simp [net0] at hx, fun i _ => rfl⟩, Nat.le_refl _, Nat.le_refl _, Nat.le_refl _, fun x hx => by simp [net0] at hx, fun _ => rfl⟩
theorem RunOk.ticks {N : Nt} {k : Nat} (h : RunOk N k) (g : Nat) (hg : g ≤ 20) : RunOk (N.ticks g) (k + 1) where
  nl := (ticks_nl N g).trans h.nl
  ok := ticks_ok h.ok g
  sent := by rw [ticks_sent]; have := h.sent; omega
  len := by have := ticks_len N g; have := h.len; omega
  now := by rw [ticks_now]; have := h.now; omega
  due := fun x hx => by have := h.due x (ticks_mem N g x hx); omega
  opn := fun i => (ticks_closed N i g).trans (h.opn i)
/-- Behind the ticks: the message's own part of a step. -/
theorem RunOk.sent' {N : Nt} {k i : Nat} {m : List Int} (h : RunOk N k) (hs : N.sent + 1 ≤ k) (hl : N.later.length + 1 ≤ k) (hi : i < 2) (hm : m.length ≤ 4096) : RunOk (N.send i m) k := by
  have S := send_to N i m ((h.ok.fates) |> fun hf => by
    unfold Nt.fateOf
    by_cases hs : N.sent < N.fates.length
    · rw [List.getD_eq_getElem?_getD, List.getElem?_eq_getElem hs]; exact hf _ (List.getElem_mem hs)
    · rw [List.getD_eq_getElem?_getD, List.getElem?_eq_none (by omega)]; exact .inl rfl)
  refine ⟨S.nl.trans h.nl, ⟨by rw [S.fates]; exact h.ok.fates, ?_, ?_⟩, by rw [S.sent]; exact hs, ?_, by rw [S.now]; exact h.now, ?_, fun j => (S.closed j).trans (h.opn j)⟩
  · intro x hx
    rw [S.nl]
    rcases S.later with e | ⟨t, ht, e⟩
    · rw [e] at hx; exact h.ok.later x hx
    · rw [e] at hx
      simp only [List.mem_append, List.mem_singleton] at hx
      rcases hx with hx | rfl
      · exact h.ok.later x hx
      · exact ⟨by rw [h.nl]; exact hi, by show m.length ≤ 1048576; omega⟩
  · intro j hj
    have hc := h.ok.coming j (by rw [← S.nl]; exact hj)
    have := S.coming j
    omega
  · rcases S.later with e | ⟨t, ht, e⟩
    · rw [e]; exact h.len
    · rw [e, List.length_append]; simp; omega
  · intro x hx
    rcases S.later with e | ⟨t, ht, e⟩
    · rw [e] at hx; exact h.due x hx
    · rw [e] at hx
      simp only [List.mem_append, List.mem_singleton] at hx
      rcases hx with hx | rfl
      · exact h.due x hx
      · show N.now + t ≤ _; have := h.now; omega
theorem RunOk.step {N : Nt} {k : Nat} {s : Snt} (h : RunOk N k) (hs : TameS s) (b1 b2 : Bool) : RunOk (stepS b1 b2 N s) (k + 1) := by
  have h1 := h.ticks s.gap hs.1
  unfold stepS
  split
  · refine h1.sent' ?_ ?_ hs.2.1 hs.2.2.1
    · rw [ticks_sent]; have := h.sent; omega
    · have := ticks_len N s.gap; have := h.len; omega
  · exact h1
theorem RunOk.run {S : List Snt} (hS : ∀ s ∈ S, TameS s) (b1 b2 : Bool) : ∀ {N : Nt} {k : Nat}, RunOk N k → RunOk (runS b1 b2 N S) (k + S.length) := by
  induction S with
  | nil => intro N k h; exact h
  | cons s S ih =>
    intro N k h
    have := ih (fun x hx => hS x (by simp [hx])) (h.step (hS s (by simp)) b1 b2)
    have e : k + (s :: S).length = k + 1 + S.length := by simp; omega
    rw [e]; exact this
theorem stepS_now (b1 b2 : Bool) (N : Nt) (s : Snt) (h : mayF (N.ticks s.gap).fateOf) : (stepS b1 b2 N s).now = N.now + s.gap := by
  unfold stepS
  split
  · rw [(send_to _ _ _ h).now, ticks_now]
  · exact ticks_now _ _
theorem RunOk.may {N : Nt} {k : Nat} (h : RunOk N k) : mayF N.fateOf := by
  unfold Nt.fateOf
  by_cases hs : N.sent < N.fates.length
  · rw [List.getD_eq_getElem?_getD, List.getElem?_eq_getElem hs]; exact h.ok.fates _ (List.getElem_mem hs)
  · rw [List.getD_eq_getElem?_getD, List.getElem?_eq_none (by omega)]; exact .inl rfl
theorem runS_now {S : List Snt} (hS : ∀ s ∈ S, TameS s) (b1 b2 : Bool) : ∀ {N : Nt} {k : Nat}, RunOk N k → (runS b1 b2 N S).now = N.now + gaps S := by
  induction S with
  | nil => intro N k h; simp [runS, gaps]
  | cons s S ih =>
    intro N k h
    have hs := hS s (by simp)
    have := ih (fun x hx => hS x (by simp [hx])) (h.step hs b1 b2)
    show (runS b1 b2 (stepS b1 b2 N s) S).now = _
    rw [this, stepS_now b1 b2 N s (h.ticks s.gap hs.1).may]
    simp only [gaps]; omega
end Go.Proofs.Ytadalodjnbnjkaa
