/- Plain: what must come on a lane is what comes. -/
import Derived.Test.YtadalodjnbnjkaaBecome3
import Derived.Test.YtadalodjnbnjkaaOne4
namespace Go.Proofs.Ytadalodjnbnjkaa

/-! ### put, of a list in the order of its times -/
theorem foldl_put_true (c : Cm) : ∀ (L acc : List Cm), L.foldl (putStep c) (acc, true) = (acc ++ L, true)
  | [], acc => by simp
  | x :: L, acc => by
    have e : putStep c (acc, true) x = (acc ++ [x], true) := by simp [putStep]
    rw [List.foldl_cons, e, foldl_put_true c L]; simp
theorem foldl_put (c : Cm) : ∀ (L acc : List Cm), (∀ x ∈ L, aheadB c x = decide (c.at' < x.at')) → L.Pairwise (fun a b => a.at' ≤ b.at') →
    ∃ A B, L = A ++ B ∧ (∀ x ∈ A, x.at' ≤ c.at') ∧ (∀ x ∈ B, c.at' < x.at') ∧
      (if (L.foldl (putStep c) (acc, false)).2 then (L.foldl (putStep c) (acc, false)).1 else (L.foldl (putStep c) (acc, false)).1 ++ [c]) = acc ++ A ++ c :: B
  | [], acc, _, _ => ⟨[], [], rfl, by simp, by simp, by simp⟩
  | x :: L, acc, h, hs => by
    have hx := h x (by simp)
    rw [List.pairwise_cons] at hs
    by_cases hlt : c.at' < x.at'
    · have e : putStep c (acc, false) x = (acc ++ [c] ++ [x], true) := by simp [putStep, hx, hlt]
      refine ⟨[], x :: L, rfl, by simp, fun y hy => ?_, ?_⟩
      · rcases List.mem_cons.1 hy with rfl | hy
        · exact hlt
        · have := hs.1 y hy; omega
      · rw [List.foldl_cons, e, foldl_put_true]; simp
    · have e : putStep c (acc, false) x = (acc ++ [x], false) := by simp [putStep, hx, hlt]
      obtain ⟨A, B, h1, h2, h3, h4⟩ := foldl_put c L (acc ++ [x]) (fun y hy => h y (by simp [hy])) hs.2
      refine ⟨x :: A, B, by rw [h1]; rfl, fun y hy => ?_, h3, ?_⟩
      · rcases List.mem_cons.1 hy with rfl | hy
        · omega
        · exact h2 y hy
      · rw [List.foldl_cons, e, h4]; simp
theorem putF_split {L : List Cm} {c : Cm} (h : ∀ x ∈ L, aheadB c x = decide (c.at' < x.at')) (hs : L.Pairwise (fun a b => a.at' ≤ b.at')) :
    ∃ A B, L = A ++ B ∧ (∀ x ∈ A, x.at' ≤ c.at') ∧ (∀ x ∈ B, c.at' < x.at') ∧ putF L c = A ++ c :: B := by
  obtain ⟨A, B, h1, h2, h3, h4⟩ := foldl_put c L [] h hs
  refine ⟨A, B, h1, h2, h3, ?_⟩
  unfold putF putK
  rw [List.take_length]
  simpa using h4

/-! ### the list and the lane -/
structure Due (L : List Cm) (o : One) (num : Nat) : Prop where
  srt : L.Pairwise (fun a b => a.at' ≤ b.at')
  dir : ∀ x ∈ L, x.direct ≤ 1 ∧ x.number ≤ num ∧ (o.now < x.at' → x.direct = 0)
  buf : o.buf = (L.filter (fun x => decide (x.at' ≤ o.now))).map (·.data)
  late : ∀ d, o.now < d → (L.filter (fun x => x.at' == d)).map (·.data) = (o.late.filter (fun x => x.1 == d)).map (·.2)
  on : ∀ x ∈ o.late, o.now < x.1
  near : ∀ x ∈ L, x.at' ≤ o.now + 40

theorem Due.more {L : List Cm} {o : One} {num num' : Nat} (h : Due L o num) (hn : num ≤ num') : Due L o num' :=
  ⟨h.srt, fun x hx => by have := h.dir x hx; exact ⟨this.1, by omega, this.2.2⟩, h.buf, h.late, h.on, h.near⟩
theorem Due.start : Due [] ⟨0, [], []⟩ 0 := ⟨List.Pairwise.nil, by simp, rfl, by simp, by simp, by simp⟩

theorem filter_all {α : Type} {p : α → Bool} {L : List α} (h : ∀ x ∈ L, p x = true) : L.filter p = L := List.filter_eq_self.2 h
theorem filter_no {α : Type} {p : α → Bool} {L : List α} (h : ∀ x ∈ L, p x = false) : L.filter p = [] := List.filter_eq_nil_iff.2 (fun x hx => by rw [h x hx]; simp)

theorem pairwise_put {A B : List Cm} {c : Cm} (hs : (A ++ B).Pairwise (fun a b => a.at' ≤ b.at')) (hA : ∀ x ∈ A, x.at' ≤ c.at') (hB : ∀ x ∈ B, c.at' < x.at') : (A ++ c :: B).Pairwise (fun a b => a.at' ≤ b.at') := by
  rw [List.pairwise_append] at hs ⊢
  refine ⟨hs.1, List.pairwise_cons.2 ⟨fun y hy => by have := hB y hy; omega, hs.2.1⟩, fun a ha b hb => ?_⟩
  rcases List.mem_cons.1 hb with rfl | hb
  · exact hA a ha
  · exact hs.2.2 a ha b hb

theorem Due.push {L : List Cm} {o : One} {num : Nat} (h : Due L o num) (hl : L.length < 64) (data : List Int) (a : Option Addr) (n c : Nat) : Due (putF L ⟨o.now, 1, num, data, a, n, c⟩) (o.push data) num := by
  have hah : ∀ x ∈ L, aheadB ⟨o.now, 1, num, data, a, n, c⟩ x = decide (o.now < x.at') := fun x hx => by
    obtain ⟨d1, d2, d3⟩ := h.dir x hx
    unfold aheadB
    by_cases e1 : o.now = x.at'
    · have e2 : ¬ o.now < x.at' := by omega
      by_cases e3 : 1 = x.direct
      · have e4 : ¬ num < x.number := by omega
        simp [e1, ← e3, e4]
      · have e4 : ¬ 1 < x.direct := by omega
        simp [e1, e3, e4]
    · simp [e1]
  obtain ⟨A, B, rfl, hA, hB, hp⟩ := putF_split (c := ⟨o.now, 1, num, data, a, n, c⟩) hah h.srt
  rw [hp]
  simp only at hA hB
  have fA : A.filter (fun x => decide (x.at' ≤ o.now)) = A := filter_all fun x hx => by simpa using hA x hx
  have fB : B.filter (fun x => decide (x.at' ≤ o.now)) = [] := filter_no fun x hx => by have := hB x hx; simp; omega
  have hb : o.buf = A.map (·.data) := by rw [h.buf, List.filter_append, fA, fB]; simp
  refine ⟨pairwise_put h.srt hA hB, fun x hx => ?_, ?_, fun d hd => ?_, h.on, fun x hx => ?_⟩
  · rcases List.mem_append.1 hx with hx | hx
    · exact h.dir x (by simp [hx])
    · rcases List.mem_cons.1 hx with rfl | hx
      · exact ⟨Nat.le_refl _, Nat.le_refl _, fun hh => absurd hh (Nat.lt_irrefl _)⟩
      · exact h.dir x (by simp [hx])
  · show pushB o.buf data = ((A ++ ⟨o.now, 1, num, data, a, n, c⟩ :: B).filter (fun x => decide (x.at' ≤ o.now))).map (·.data)
    rw [List.filter_append, List.filter_cons, fA, fB]
    simp only [Nat.le_refl, decide_true, if_true, List.map_append, List.map_cons, List.map_nil]
    unfold pushB
    have hl2 : A.length < 64 := by simp at hl; omega
    rw [hb, if_pos (by simpa using hl2)]
  · have hd' : o.now < d := hd
    have := h.late d hd'
    rw [List.filter_append] at this ⊢
    have e : ((o.now : Nat) == d) = false := by simp; omega
    rw [List.filter_cons]
    simp only [e, Bool.false_eq_true, if_false]
    exact this
  · show x.at' ≤ o.now + 40
    rcases List.mem_append.1 hx with hx | hx
    · exact h.near x (by simp [hx])
    · rcases List.mem_cons.1 hx with rfl | hx
      · show o.now ≤ o.now + 40; omega
      · exact h.near x (by simp [hx])

theorem Due.later {L : List Cm} {o : One} {num : Nat} (h : Due L o num) (t : Nat) (ht0 : 0 < t) (ht : t ≤ 40) (data : List Int) (a : Option Addr) (n c : Nat) :
    Due (putF L ⟨o.now + t, 0, num, data, a, n, c⟩) { o with late := o.late ++ [(o.now + t, data)] } num := by
  have hah : ∀ x ∈ L, aheadB ⟨o.now + t, 0, num, data, a, n, c⟩ x = decide (o.now + t < x.at') := fun x hx => by
    obtain ⟨d1, d2, d3⟩ := h.dir x hx
    unfold aheadB
    by_cases e1 : o.now + t = x.at'
    · have e2 : x.direct = 0 := d3 (by omega)
      have e4 : ¬ num < x.number := by omega
      simp [e1, e2, e4]
    · simp [e1]
  obtain ⟨A, B, rfl, hA, hB, hp⟩ := putF_split (c := ⟨o.now + t, 0, num, data, a, n, c⟩) hah h.srt
  rw [hp]
  simp only at hA hB
  refine ⟨pairwise_put h.srt hA hB, fun x hx => ?_, ?_, fun d hd => ?_, fun x hx => ?_, fun x hx => ?_⟩
  · rcases List.mem_append.1 hx with hx | hx
    · exact h.dir x (by simp [hx])
    · rcases List.mem_cons.1 hx with rfl | hx
      · exact ⟨by show 0 ≤ 1; omega, Nat.le_refl _, fun _ => rfl⟩
      · exact h.dir x (by simp [hx])
  · show o.buf = ((A ++ ⟨o.now + t, 0, num, data, a, n, c⟩ :: B).filter (fun x => decide (x.at' ≤ o.now))).map (·.data)
    rw [h.buf, List.filter_append, List.filter_append, List.filter_cons]
    have e : decide (o.now + t ≤ o.now) = false := by simp; omega
    simp only [e, Bool.false_eq_true, if_false]
  · have hd' : o.now < d := hd
    have := h.late d hd'
    rw [List.filter_append] at this ⊢
    rw [List.filter_cons]
    have er : ((o.late ++ [(o.now + t, data)]).filter (fun x => x.1 == d)).map (·.2) = (o.late.filter (fun x => x.1 == d)).map (·.2) ++ ([(o.now + t, data)].filter (fun x => x.1 == d)).map (·.2) := by rw [List.filter_append, List.map_append]
    show _ = ((o.late ++ [(o.now + t, data)]).filter (fun x => x.1 == d)).map (·.2)
    rw [er, ← this]
    by_cases e : o.now + t = d
    · subst e
      have fB : B.filter (fun x => x.at' == o.now + t) = [] := filter_no fun x hx => by have := hB x hx; simp; omega
      simp [fB]
    · have e' : ((o.now + t : Nat) == d) = false := by simpa using e
      simp [e]
  · simp only [List.mem_append, List.mem_singleton] at hx
    rcases hx with hx | rfl
    · exact h.on x hx
    · show o.now < o.now + t; omega
  · show x.at' ≤ o.now + 40
    rcases List.mem_append.1 hx with hx | hx
    · exact h.near x (by simp [hx])
    · rcases List.mem_cons.1 hx with rfl | hx
      · show o.now + t ≤ o.now + 40; omega
      · exact h.near x (by simp [hx])

/-! ### a tick -/
theorem fold_step (nw : Nat) : ∀ (X : List (Nat × List Int)) (b : List (List Int)) (l : List (Nat × List Int)), b.length + (X.filter (fun x => !decide (nw < x.1))).length ≤ 64 →
    X.foldl (One.step nw) (b, l) = (b ++ (X.filter (fun x => !decide (nw < x.1))).map (·.2), l ++ X.filter (fun x => decide (nw < x.1)))
  | [], b, l, _ => by simp
  | x :: X, b, l, h => by
    rw [List.foldl_cons]
    by_cases hd : nw < x.1
    · have e : One.step nw (b, l) x = (b, l ++ [x]) := by simp [One.step, hd]
      rw [e, fold_step nw X b _ (by simpa [hd] using h)]
      simp [hd]
    · have hb : b.length < 64 := by simp [hd] at h; omega
      have e : One.step nw (b, l) x = (b ++ [x.2], l) := by simp [One.step, hd, pushB, hb]
      rw [e, fold_step nw X _ _ (by simp [hd] at h ⊢; omega)]
      simp [hd]
theorem filter_next {t : Nat} : ∀ {L : List Cm}, L.Pairwise (fun a b => a.at' ≤ b.at') → L.filter (fun x => decide (x.at' ≤ t)) ++ L.filter (fun x => x.at' == t + 1) = L.filter (fun x => decide (x.at' ≤ t + 1))
  | [], _ => rfl
  | x :: L, h => by
    rw [List.pairwise_cons] at h
    have ih := filter_next (t := t) h.2
    by_cases h1 : x.at' ≤ t
    · have h2 : x.at' ≤ t + 1 := by omega
      have h3 : (x.at' == t + 1) = false := by simp; omega
      simp only [List.filter_cons, h1, h2, h3, decide_true, if_true, Bool.false_eq_true, if_false, List.cons_append]
      rw [ih]
    · have f0 : L.filter (fun x => decide (x.at' ≤ t)) = [] := filter_no fun y hy => by have := h.1 y hy; simp; omega
      rw [f0, List.nil_append] at ih
      by_cases h2 : x.at' = t + 1
      · have h3 : (x.at' == t + 1) = true := by simp [h2]
        have h4 : x.at' ≤ t + 1 := by omega
        simp only [List.filter_cons, h1, h4, h3, decide_true, if_true, decide_false, Bool.false_eq_true, if_false, f0, List.nil_append, ih]
      · have h3 : (x.at' == t + 1) = false := by simp [h2]
        have h4 : ¬ x.at' ≤ t + 1 := by omega
        simp only [List.filter_cons, h1, h4, h3, decide_false, Bool.false_eq_true, if_false, f0, List.nil_append, ih]
theorem Due.tick {L : List Cm} {o : One} {num : Nat} (h : Due L o num) (hl : L.length < 64) : Due L o.tick num := by
  have e1 : o.late.filter (fun x => !decide (o.now + 1 < x.1)) = o.late.filter (fun x => x.1 == o.now + 1) :=
    List.filter_congr fun x hx => by have := h.on x hx; rw [Bool.eq_iff_iff]; simp; omega
  have e2 := h.late (o.now + 1) (by omega)
  have e3 := filter_next (t := o.now) h.srt
  have hlen := List.length_filter_le (fun x : Cm => decide (x.at' ≤ o.now + 1)) L
  have e4 : o.buf ++ (o.late.filter (fun x => !decide (o.now + 1 < x.1))).map (·.2) = (L.filter (fun x => decide (x.at' ≤ o.now + 1))).map (·.data) := by
    rw [e1, ← e2, h.buf, ← List.map_append, e3]
  have e5 := congrArg List.length e4
  simp only [List.length_append, List.length_map] at e5
  have hf : o.ticked = (o.buf ++ (o.late.filter (fun x => !decide (o.now + 1 < x.1))).map (·.2), [] ++ o.late.filter (fun x => decide (o.now + 1 < x.1))) :=
    fold_step (o.now + 1) o.late o.buf [] (by omega)
  refine ⟨h.srt, fun x hx => ?_, ?_, fun d hd => ?_, fun x hx => ?_, fun x hx => ?_⟩
  · obtain ⟨d1, d2, d3⟩ := h.dir x hx
    exact ⟨d1, d2, fun hh => d3 (by have : o.now + 1 < x.at' := hh; omega)⟩
  · show o.ticked.1 = _
    rw [hf]
    exact e4
  · have hd' : o.now + 1 < d := hd
    show _ = (o.ticked.2.filter (fun x => x.1 == d)).map (·.2)
    rw [hf]
    simp only [List.nil_append, List.filter_filter]
    rw [h.late d (by omega)]
    congr 1
    exact List.filter_congr fun x hx => by rw [Bool.eq_iff_iff]; simp; omega
  · have hx' : x ∈ o.ticked.2 := hx
    rw [hf] at hx'
    simp at hx'
    exact hx'.2
  · have := h.near x hx
    show x.at' ≤ o.now + 1 + 40
    omega
theorem Due.ticks {L : List Cm} {o : One} {num : Nat} (h : Due L o num) (hl : L.length < 64) : ∀ k, Due L (o.ticks k) num
  | 0 => h
  | k + 1 => (Due.ticks h hl k).tick hl

/-! ### a message that is sent -/
def becF (L : List Cm) (t num : Nat) (m : List Int) (f : Int × Int) (a : Option Addr) (n c : Nat) : List Cm :=
  if f.1 = 0 then putF L ⟨t, 1, num, m, a, n, c⟩
  else if f.1 = 1 then L
  else if f.1 = 2 then putF (putF L ⟨t, 1, num, m, a, n, c⟩) (lateC t f.2.toNat num m a n c)
  else if f.1 = 3 then putF L (lateC t f.2.toNat num m a n c)
  else if f.1 = 4 then putF L ⟨t, 1, num, m.take f.2.toNat, a, n, c⟩
  else putF L ⟨t, 1, num, if f.2.toNat < m.length then spoilt m f.2.toNat else m, a, n, c⟩
theorem becF_len (L : List Cm) (t num : Nat) (m : List Int) (f : Int × Int) (a : Option Addr) (n c : Nat) : (becF L t num m f a n c).length ≤ L.length + 2 := by
  unfold becF
  have h := fun c => putF_len L c
  split
  · have := h ⟨t, 1, num, m, a, n, c⟩; omega
  · split
    · omega
    · split
      · have := h ⟨t, 1, num, m, a, n, c⟩
        have := putF_len (putF L ⟨t, 1, num, m, a, n, c⟩) (lateC t f.2.toNat num m a n c)
        omega
      · split
        · have := h (lateC t f.2.toNat num m a n c); omega
        · split
          · have := h ⟨t, 1, num, m.take f.2.toNat, a, n, c⟩; omega
          · have := h ⟨t, 1, num, if f.2.toNat < m.length then spoilt m f.2.toNat else m, a, n, c⟩; omega
theorem Due.sendAt {L : List Cm} {o : One} {num : Nat} (h : Due L o num) (hl : L.length < 64) (t : Nat) (ht : t ≤ 40) (data : List Int) (a : Option Addr) (n c : Nat) : Due (putF L (lateC o.now t num data a n c)) (o.sendAt t data) num := by
  unfold One.sendAt lateC
  by_cases h0 : t = 0
  · subst h0
    exact h.push hl data a n c
  · rw [if_pos (by omega : 0 < t), if_neg h0]
    exact h.later t (by omega) ht data a n c
theorem Due.fated {L : List Cm} {o : One} {num : Nat} (h : Due L o num) (hl : L.length < 62) (m : List Int) (f : Int × Int) (hf : f.2 ≤ 40) (a : Option Addr) (n c : Nat) : Due (becF L o.now num m f a n c) (o.fated m f) num := by
  have ht : f.2.toNat ≤ 40 := by omega
  unfold becF One.fated
  split
  · exact h.push (by omega) m a n c
  · split
    · exact h
    · split
      · have h1 := h.push (by omega) m a n c
        have hl1 := putF_len L ⟨o.now, 1, num, m, a, n, c⟩
        exact h1.sendAt (by omega) f.2.toNat ht m a n c
      · split
        · exact h.sendAt (by omega) f.2.toNat ht m a n c
        · split
          · exact h.push (by omega) _ a n c
          · exact h.push (by omega) _ a n c

/-! ### a message that is waited for -/
theorem Due.wait {L : List Cm} {x : Cm} {num : Nat} (hl : (x :: L).length < 64) : ∀ (t : Nat) (o : One), Due (x :: L) o num → x.at' ≤ o.now + t →
    ∃ o', One.wait t o = (some x.data, o') ∧ Due L o' num ∧ o'.now = max o.now x.at'
  | t, o, h, ht => by
    by_cases h1 : x.at' ≤ o.now
    · have hb := h.buf
      rw [List.filter_cons] at hb
      simp only [h1, decide_true, if_true, List.map_cons] at hb
      refine ⟨{ o with buf := (L.filter (fun x => decide (x.at' ≤ o.now))).map (·.data) }, ?_, ?_, ?_⟩
      · unfold One.wait; rw [hb]
      · refine ⟨(List.pairwise_cons.1 h.srt).2, fun y hy => h.dir y (by simp [hy]), rfl, fun d hd => ?_, h.on, fun y hy => h.near y (by simp [hy])⟩
        have hd' : o.now < d := hd
        have := h.late d hd'
        rw [List.filter_cons] at this
        have e : (x.at' == d) = false := by simp; omega
        simp only [e, Bool.false_eq_true, if_false] at this
        exact this
      · show o.now = max o.now x.at'; omega
    · have hb : o.buf = [] := by
        rw [h.buf, filter_no]
        · rfl
        · intro y hy
          rcases List.mem_cons.1 hy with rfl | hy
          · simp; omega
          · have := (List.pairwise_cons.1 h.srt).1 y hy
            simp; omega
      cases t with
      | zero => omega
      | succ t =>
        have e : One.wait (t + 1) o = One.wait t o.tick := One.wait_succ hb t
        obtain ⟨o', q1, q2, q3⟩ := Due.wait hl t o.tick (h.tick hl) (by show x.at' ≤ o.now + 1 + t; omega)
        refine ⟨o', by rw [e]; exact q1, q2, ?_⟩
        rw [q3]
        show max (o.now + 1) x.at' = _
        omega
theorem Due.nil {o : One} {num : Nat} (h : Due [] o num) : o.buf = [] ∧ o.late = [] := by
  refine ⟨h.buf, ?_⟩
  cases hl : o.late with
  | nil => rfl
  | cons x X =>
    have h1 := h.on x (by rw [hl]; simp)
    have h2 := h.late x.1 h1
    rw [hl] at h2
    simp at h2
theorem Due.there {L : List Cm} {o : One} {num : Nat} (h : Due L o num) : o.buf.length = (L.filter (fun x => decide (x.at' ≤ o.now))).length := by rw [h.buf, List.length_map]
end Go.Proofs.Ytadalodjnbnjkaa
