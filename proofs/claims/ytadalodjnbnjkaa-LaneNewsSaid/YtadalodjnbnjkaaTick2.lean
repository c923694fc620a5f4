/- tick: the time goes on by one; what is due comes. -/
import Derived.Test.YtadalodjnbnjkaaTick
namespace Go.Proofs.Ytadalodjnbnjkaa
open Go.RowKit Go.Conc

def static (t : Tag) : Prop := t = .net ∨ t = .arr ∨ t = .fates ∨ t = .later ∨ t = .lat

/-- What holds at the head of a round of tick's loop: k of the messages have been looked at. -/
def TickRel (w0 : World) (own : Own) (A : Ga) (N : Nt) (X : List (Ml × Value)) (k : Nat) (left : Value) (wr : World) : Prop :=
  ∃ ownk Xl, Same w0.heap.size own ownk ∧ Lies wr ownk ∧ Mv own.has w0 wr ∧ (∀ b t, own b = some t → static t → wr.heap[b]? = w0.heap[b]?) ∧
    Xl.map Prod.fst = (N.ticked k).2 ∧ (∀ x ∈ Xl, x ∈ X) ∧ wr.ownsRow w0.heap.size 115 3 left Xl.length (latCells Xl) ∧ (∀ b, left.ownBlock = some b → ownk b = none) ∧
    (∀ i, i < N.nl → LaneIs wr ownk A i ((N.ticked k).1 i) ((N.ticked k).1 i).shut)

/-- What tick's loop stands on. -/
structure TickBase (w0 : World) (own : Own) (A : Ga) (N : Nt) (cap : Nat) (fv lv : Value) (X : List (Ml × Value)) : Prop where
  lies : Lies w0 own
  head : own A.net = some .net ∧ w0.heap[A.net]? = some (.cells #[.slice (some ⟨A.arr, 0, none⟩) N.nl cap, fv, .int .i64 N.sent, .int .i64 ((N.now + 1 : Nat) : Int), lv] 82 (0, 0))
  arr : ArrIs w0 own A N.nl cap
  fates : FatesIs w0 own fv N.fates
  map : X.map Prod.fst = N.later
  row : w0.ownsRow 0 115 3 lv X.length (latCells X)
  rowOwn : ∀ b, lv.ownBlock = some b → own b = some .later
  lat : LatOk w0 own X
  ok : Okn N

section
variable {w0 wr : World} {own ownk : Own} {A : Ga} {N : Nt} {cap k : Nat} {fv lv : Value} {X : List (Ml × Value)}

theorem tick_start (B : TickBase w0 own A N cap fv lv X) (h : ∀ i, i < N.nl → LaneIs w0 own A i (N.lane i) (N.lane i).shut) : TickRel w0 own A N X 0 (.slice none 0 0) w0 :=
  ⟨own, [], Same.refl _ _, B.lies, Mv.refl _ _, fun _ _ _ _ => rfl, rfl, fun x hx => by simp at hx, World.ownsRow_nil _ _ _ _, fun b hb => by simp [Value.ownBlock] at hb, h⟩

/-- The net behind the last round. -/
theorem tick_end (B : TickBase w0 own A N cap fv lv X) {left : Value} (h : TickRel w0 own A N X N.later.length left wr) : Leaves w0 own A N.tick (.returned (.tuple #[])) (.returned (.tuple #[])) (wr.setCell ⟨A.net, 4, none⟩ left) := by
  obtain ⟨ownk, Xl, hs, hl, hm, hst, hX, hXm, hrow, hown, hlane⟩ := h
  have hn : own.has A.net := by unfold Own.has; rw [B.head.1]; simp
  have hs' : ∀ b t, own b = some t → ownk b = some t := fun b t hb => (hs b (B.lies b t hb)).trans hb
  let ow : Own := match left.ownBlock with | some b => ownk.put b .later | none => ownk
  have how : ∀ b t, ownk b = some t → ow b = some t := fun b t hb => by
    simp only [ow]
    cases hlb : left.ownBlock with
    | none => exact hb
    | some g =>
      have := hown g hlb
      simp only
      rw [Own.put_other _ _ (fun e => by rw [e, this] at hb; cases hb)]; exact hb
  have hlies : Lies wr ow := by
    simp only [ow]
    cases hlb : left.ownBlock with
    | none => exact hl
    | some g => exact hl.put (hrow.lt g hlb).2 _
  have hgrow : Grows w0.heap.size own ow := by
    simp only [ow]
    cases hlb : left.ownBlock with
    | none => exact hs.grows
    | some g => exact hs.grows.put (hrow.lt g hlb).1 _
  have hlb : ∀ b, left.ownBlock = some b → ow b = some .later := fun b hb => by simp only [ow, hb]; exact Own.put_same _ _ _
  have hnl : ∀ b, left.ownBlock = some b → b ≠ A.net := fun b hb e => by have := hown b hb; rw [e, hs' _ _ B.head.1] at this; cases this
  have hset : ∀ b, b ≠ A.net → (wr.setCell ⟨A.net, 4, none⟩ left).heap[b]? = wr.heap[b]? := fun b hb => heap_setCell_other hb _
  have key : ∀ b t, own b = some t → static t → t ≠ .net → ow b = some t ∧ (wr.setCell ⟨A.net, 4, none⟩ left).heap[b]? = w0.heap[b]? := fun b t hb ht hne =>
    ⟨how b t (hs' b t hb), (hset b (fun e => by rw [e, B.head.1] at hb; cases hb; exact hne rfl)).trans (hst b t hb ht)⟩
  refine ⟨rfl, ow, ⟨hlies.mono (by simp [World.setCell]), cap, fv, left, ⟨how _ _ (hs' _ _ B.head.1), ?_⟩, B.arr.keep (fun ho => key _ _ ho (by simp [static]) (by simp)), B.fates.keep (fun b hb => key _ _ hb (by simp [static]) (by simp)), ?_, ?_⟩, hm.setCell (.inl hn) _, hgrow⟩
  · rw [heap_setCell_same ((hst _ _ B.head.1 (.inl rfl)).trans B.head.2)]
    simp [Nt.tick]
  · refine ⟨Xl, hX, ownsRow_keep (w := wr) ⟨hrow.1, ?_⟩ (fun b hb => hset b (hnl b hb)), hlb, fun x hx => ?_⟩
    · rcases hrow.2 with h | ⟨g, c, cur, h1, h2, h3⟩
      · exact .inl h
      · exact .inr ⟨g, c, cur, h1, Nat.zero_le _, h3⟩
    · exact (B.lat.keep (fun b hb => key b _ hb (by simp [static]) (by simp))) x (hXm x hx)
  · intro i hi
    refine (hlane i hi).keep fun b t hb ht => ⟨how b t hb, hset b (fun e => ?_)⟩
    rw [e, hs' _ _ B.head.1] at hb
    cases hb
    rcases ht with h | h | ⟨k, h⟩ <;> cases h

theorem ticked_skip (hk : k < N.later.length) (hdue : N.now + 1 < N.later[k].due) : N.ticked (k + 1) = ((N.ticked k).1, (N.ticked k).2 ++ [N.later[k]]) := by
  rw [ticked_succ N k hk]; simp [tickStep, hdue]
theorem ticked_come (hk : k < N.later.length) (hdue : ¬ N.now + 1 < N.later[k].due) :
    N.ticked (k + 1) = (setL (N.ticked k).1 N.later[k].lane (((N.ticked k).1 N.later[k].lane).take N.later[k].msg), (N.ticked k).2) := by
  rw [ticked_succ N k hk]; simp [tickStep, hdue]

/-- A round in which the message goes on. -/
theorem tick_skip (B : TickBase w0 own A N cap fv lv X) {x : Ml × Value} {left left' : Value} {wr1 wr' : World} {gg : Nat} (hk : k < N.later.length) (hx : X[k]? = some x)
    (hdue : N.now + 1 < x.1.due) {ownk : Own} {Xl : List (Ml × Value)} (hs : Same w0.heap.size own ownk) (hl : Lies wr ownk) (hm : Mv own.has w0 wr)
    (hst : ∀ b t, own b = some t → static t → wr.heap[b]? = w0.heap[b]?) (hX : Xl.map Prod.fst = (N.ticked k).2) (hXm : ∀ x ∈ Xl, x ∈ X)
    (hleft : ∀ b, left.ownBlock = some b → w0.heap.size ≤ b ∧ ownk b = none)
    (hlane : ∀ i, i < N.nl → LaneIs wr ownk A i ((N.ticked k).1 i) ((N.ticked k).1 i).shut)
    (h1 : Mv (fun _ => False) wr wr1) (hown : wr'.ownsRow w0.heap.size 115 3 left' (Xl.length + 1) (latCells Xl ++ [.int .i64 x.1.due, .int .i64 x.1.lane, x.2])) (hgrow : wr1.grownBy wr' left.ownBlock)
    (hgg : left'.ownBlock = some gg) (hat : left.ownBlock = some gg ∨ wr.heap.size ≤ gg) : TickRel w0 own A N X (k + 1) left' wr' := by
  have hxl : N.later[k] = x.1 := by
    have : (X.map Prod.fst)[k]? = some x.1 := by simp [hx]
    rw [B.map, List.getElem?_eq_getElem hk] at this
    exact Option.some.inj this
  have hold : ∀ b, b < wr.heap.size → left.ownBlock ≠ some b → wr'.heap[b]? = wr.heap[b]? := fun b hb hne =>
    (hgrow.block b (Nat.lt_of_lt_of_le hb h1.size) (Ne.symm hne)).trans (h1.block b hb id)
  have hown' : ∀ b t, ownk b = some t → wr'.heap[b]? = wr.heap[b]? := fun b t hb => hold b (hl b t hb) (fun e => by rw [(hleft b e).2] at hb; cases hb)
  have hsz : wr.heap.size ≤ wr'.heap.size := Nat.le_trans h1.size hgrow.size
  have hsk := ticked_skip (N := N) hk (by rw [hxl]; exact hdue)
  refine ⟨ownk, Xl ++ [x], hs, hl.mono hsz, ?_, ?_, ?_, ?_, ?_, ?_, ?_⟩
  · refine hm.trans' (G := fun b => left.ownBlock = some b) ⟨hgrow.os.trans h1.os, hgrow.tape.trans h1.tape, hgrow.output.trans h1.output, hsz, fun b hb hne => hold b hb hne⟩ fun b hb he => ?_
    have := (hleft b he).1
    omega
  · intro b t hb ht
    exact (hown' b t ((hs b (B.lies b t hb)).trans hb)).trans (hst b t hb ht)
  · rw [hsk]; simp [hX, hxl]
  · intro y hy
    simp only [List.mem_append, List.mem_singleton] at hy
    rcases hy with hy | rfl
    · exact hXm y hy
    · exact List.mem_of_getElem? hx
  · have : latCells (Xl ++ [x]) = latCells Xl ++ [.int .i64 x.1.due, .int .i64 x.1.lane, x.2] := latCells_snoc Xl x.1 x.2
    rw [this]; simpa using hown
  · intro b hb
    rw [hgg] at hb; cases hb
    rcases hat with h | h
    · exact (hleft gg h).2
    · exact hl.none h
  · intro i hi
    rw [hsk]
    exact (hlane i hi).keep fun b t hb _ => ⟨hb, hown' b t hb⟩

/-- A round in which the message comes. -/
theorem tick_come (B : TickBase w0 own A N cap fv lv X) {x : Ml × Value} {left : Value} {wr' : World} (hk : k < N.later.length) (hx : X[k]? = some x)
    (hdue : ¬ N.now + 1 < x.1.due) {ownk own' : Own} {Xl : List (Ml × Value)} (hs : Same w0.heap.size own ownk) (hl : Lies wr ownk) (hm : Mv own.has w0 wr)
    (hst : ∀ b t, own b = some t → static t → wr.heap[b]? = w0.heap[b]?) (hX : Xl.map Prod.fst = (N.ticked k).2) (hXm : ∀ x ∈ Xl, x ∈ X) (hrow : wr.ownsRow w0.heap.size 115 3 left Xl.length (latCells Xl))
    (hleft : ∀ b, left.ownBlock = some b → ownk b = none)
    (hlane : ∀ i, i < N.nl → LaneIs wr ownk A i ((N.ticked k).1 i) ((N.ticked k).1 i).shut) (hj : x.1.lane < N.nl)
    (h1 : Mv (fun b => b = A.c x.1.lane ∨ b = A.q x.1.lane) wr wr') (hs1 : Same wr.heap.size ownk own') (hl1 : Lies wr' own')
    (hL : LaneIs wr' own' A x.1.lane (((N.ticked k).1 x.1.lane).take x.1.msg) (((N.ticked k).1 x.1.lane).take x.1.msg).shut)
    (ho : ∀ i, i < N.nl → own (A.c i) = some (.c i) ∧ own (A.q i) = some (.q i)) : TickRel w0 own A N X (k + 1) left wr' := by
  have hxl : N.later[k] = x.1 := by
    have : (X.map Prod.fst)[k]? = some x.1 := by simp [hx]
    rw [B.map, List.getElem?_eq_getElem hk] at this
    exact Option.some.inj this
  have hsk := ticked_come (N := N) hk (by rw [hxl]; exact hdue)
  rw [hxl] at hsk
  have hs' : ∀ b t, own b = some t → ownk b = some t := fun b t hb => (hs b (B.lies b t hb)).trans hb
  have hoth : ∀ b t, ownk b = some t → t ≠ .c x.1.lane → t ≠ .q x.1.lane → wr'.heap[b]? = wr.heap[b]? := fun b t hb h2 h3 => h1.block b (hl b t hb) (fun e => by
    rcases e with rfl | rfl
    · rw [hs' _ _ (ho _ hj).1] at hb; cases hb; exact h2 rfl
    · rw [hs' _ _ (ho _ hj).2] at hb; cases hb; exact h3 rfl)
  refine ⟨own', Xl, hs.trans hs1 hm.size, hl1, ?_, ?_, ?_, hXm, ?_, ?_, ?_⟩
  · refine hm.trans' h1 fun b hb he => ?_
    unfold Own.has
    rcases he with rfl | rfl
    · rw [(ho _ hj).1]; simp
    · rw [(ho _ hj).2]; simp
  · intro b t hb ht
    refine (hoth b t (hs' b t hb) ?_ ?_).trans (hst b t hb ht)
    · rintro rfl; rcases ht with h | h | h | h | h <;> cases h
    · rintro rfl; rcases ht with h | h | h | h | h <;> cases h
  · rw [hsk]; exact hX
  · refine ownsRow_keep hrow fun b hb => h1.block b (hrow.lt b hb).2 (fun e => ?_)
    have := hleft b hb
    rcases e with rfl | rfl
    · rw [hs' _ _ (ho _ hj).1] at this; cases this
    · rw [hs' _ _ (ho _ hj).2] at this; cases this
  · intro b hb
    rw [hs1 b (hrow.lt b hb).2]; exact hleft b hb
  · intro i hi
    rw [hsk]
    by_cases hij : i = x.1.lane
    · subst hij
      simpa [setL_same] using hL
    · simp only [setL_other _ _ hij]
      refine (hlane i hi).keep fun b t hb ht => ⟨(hs1 b (hl b t hb)).trans hb, hoth b t hb ?_ ?_⟩
      · rintro rfl; rcases ht with h | h | ⟨_, h⟩ <;> cases h; exact hij rfl
      · rintro rfl; rcases ht with h | h | ⟨_, h⟩ <;> cases h; exact hij rfl
end
end Go.Proofs.Ytadalodjnbnjkaa
