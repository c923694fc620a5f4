/- A net as plain data, and what memory must read as to be one: who owns which block. -/
import Derived.Test.YtadalodjnbnjkaaLeaf
namespace Go.Proofs.Ytadalodjnbnjkaa
open Go.RowKit Go.Conc

/-! ### the plain net -/
structure Lq where
  buf : List (List Int)
  closed : Bool
  coming : Nat

structure Ml where
  due : Nat
  lane : Nat
  msg : List Int

structure Nt where
  nl : Nat
  lane : Nat → Lq
  fates : List (Int × Int)
  sent : Nat
  now : Nat
  later : List Ml

def Lq.shut (L : Lq) : Bool := L.closed && L.coming == 0
def Lq.push (L : Lq) (m : List Int) : Lq := { L with buf := if L.buf.length < 64 then L.buf ++ [m] else L.buf }
def setL (f : Nat → Lq) (i : Nat) (L : Lq) : Nat → Lq := fun j => if j = i then L else f j
theorem setL_same (f : Nat → Lq) (i : Nat) (L : Lq) : setL f i L i = L := by simp [setL]
theorem setL_other (f : Nat → Lq) {i j : Nat} (L : Lq) (h : j ≠ i) : setL f i L j = f j := by simp [setL, h]

/-! ### who owns a block -/
inductive Tag where
  | net | arr | fates | later | lat
  | q (i : Nat) | c (i : Nat) | msg (i k : Nat)

abbrev Own := Nat → Option Tag
def Own.put (own : Own) (b : Nat) (t : Tag) : Own := fun k => if k = b then some t else own k
def Own.drop (own : Own) (b : Nat) : Own := fun k => if k = b then none else own k
theorem Own.put_same (own : Own) (b : Nat) (t : Tag) : own.put b t b = some t := by simp [Own.put]
theorem Own.put_other (own : Own) {b k : Nat} (t : Tag) (h : k ≠ b) : own.put b t k = own k := by simp [Own.put, h]
theorem Own.drop_other (own : Own) {b k : Nat} (h : k ≠ b) : own.drop b k = own k := by simp [Own.drop, h]

/-- Nothing that is there already becomes owned. -/
def Grows (n : Nat) (own own' : Own) : Prop := ∀ b, b < n → own b = none → own' b = none
theorem Grows.refl (n : Nat) (own : Own) : Grows n own own := fun _ _ h => h
theorem Grows.trans {n m : Nat} {a b c : Own} (h : Grows n a b) (k : Grows m b c) (hn : n ≤ m) : Grows n a c := fun i hi ha => k i (by omega) (h i hi ha)
theorem Grows.put {n : Nat} {own own' : Own} (h : Grows n own own') {b : Nat} (hb : n ≤ b) (t : Tag) : Grows n own (own'.put b t) :=
  fun k hk ho => by rw [Own.put_other _ _ (by omega)]; exact h k hk ho
theorem Grows.put_own {n : Nat} {own own' : Own} (h : Grows n own own') {b : Nat} {u : Tag} (hb : own b = some u) (t : Tag) : Grows n own (own'.put b t) :=
  fun k hk ho => by rw [Own.put_other _ _ (by rintro rfl; rw [hb] at ho; cases ho)]; exact h k hk ho
theorem Grows.drop {n : Nat} {own own' : Own} (h : Grows n own own') (b : Nat) : Grows n own (own'.drop b) :=
  fun k hk ho => by
    unfold Own.drop
    split
    · rfl
    · exact h k hk ho

/-- The blocks of a net may turn. -/
def Own.has (own : Own) : Nat → Prop := fun b => own b ≠ none

/-- All that is owned is there. -/
def Lies (w : World) (own : Own) : Prop := ∀ b t, own b = some t → b < w.heap.size
theorem Lies.none {w : World} {own : Own} (h : Lies w own) {b : Nat} (hb : w.heap.size ≤ b) : own b = none := by
  cases ho : own b with
  | none => rfl
  | some t => have := h b t ho; omega
theorem Lies.mono {w w' : World} {own : Own} (h : Lies w own) (hs : w.heap.size ≤ w'.heap.size) : Lies w' own := fun b t hb => Nat.lt_of_lt_of_le (h b t hb) hs
theorem Lies.put {w : World} {own : Own} (h : Lies w own) {b : Nat} (hb : b < w.heap.size) (t : Tag) : Lies w (own.put b t) := by
  intro k u hk
  by_cases e : k = b
  · omega
  · rw [Own.put_other _ _ e] at hk; exact h k u hk
theorem Lies.drop {w : World} {own : Own} (h : Lies w own) (b : Nat) : Lies w (own.drop b) := by
  intro k u hk
  unfold Own.drop at hk
  split at hk
  · cases hk
  · exact h k u hk

/-! ### memory -/
/-- Where a net lies: its block, the array of its queues, each queue, each channel. -/
structure Ga where
  net : Nat
  arr : Nat
  q : Nat → Nat
  c : Nat → Nat

/-- What waits: the channel's buffer reads so. -/
def BufIs (w : World) (own : Own) (i r : Nat) (vs : Array Value) (buf : List (List Int)) : Prop :=
  vs.size = buf.length ∧ ∀ j v l, vs[j]? = some v → buf[j]? = some l → ∃ g, own g = some (.msg i (r + j)) ∧ MsgAt w g v l

/-- Lane i reads L; sh: has its channel been closed? -/
def LaneIs (w : World) (own : Own) (A : Ga) (i : Nat) (L : Lq) (sh : Bool) : Prop :=
  own (A.q i) = some (.q i) ∧ own (A.c i) = some (.c i) ∧ w.heap[A.q i]? = some (.cells #[.chan (some (A.c i)), .bool L.closed, .int .i64 L.coming] 86 (0, 0)) ∧
    ∃ vs s r, w.heap[A.c i]? = some (.chan 64 vs sh s r false) ∧ BufIs w own i r vs L.buf

/-- What a lane's reading asks of a block. -/
def ofLane (i : Nat) (t : Tag) : Prop := t = .q i ∨ t = .c i ∨ ∃ k, t = .msg i k

theorem BufIs.keep {w w' : World} {own own' : Own} {i r : Nat} {vs : Array Value} {buf : List (List Int)} (h : BufIs w own i r vs buf)
    (hk : ∀ b k, own b = some (.msg i k) → own' b = some (.msg i k) ∧ w'.heap[b]? = w.heap[b]?) : BufIs w' own' i r vs buf :=
  ⟨h.1, fun j v l hv hl => let ⟨g, hg, hm⟩ := h.2 j v l hv hl; ⟨g, (hk g _ hg).1, hm.of_block (hk g _ hg).2⟩⟩

theorem LaneIs.keep {w w' : World} {own own' : Own} {A : Ga} {i : Nat} {L : Lq} {sh : Bool} (h : LaneIs w own A i L sh)
    (hk : ∀ b t, own b = some t → ofLane i t → own' b = some t ∧ w'.heap[b]? = w.heap[b]?) : LaneIs w' own' A i L sh := by
  obtain ⟨h1, h2, h3, vs, s, r, h4, h5⟩ := h
  have k1 := hk _ _ h1 (.inl rfl)
  have k2 := hk _ _ h2 (.inr (.inl rfl))
  exact ⟨k1.1, k2.1, k1.2.trans h3, vs, s, r, k2.2.trans h4, h5.keep fun b k hb => hk b _ hb (.inr (.inr ⟨k, rfl⟩))⟩

def fateCells (F : List (Int × Int)) : List Value := F.flatMap fun f => [.int .i64 f.1, .int .i64 f.2]
def FatesIs (w : World) (own : Own) (v : Value) (F : List (Int × Int)) : Prop :=
  w.ownsRow 0 63 2 v F.length (fateCells F) ∧ ∀ b, v.ownBlock = some b → own b = some .fates

/-- A message on its way, with the value that holds it. -/
def latCells (X : List (Ml × Value)) : List Value := X.flatMap fun x => [.int .i64 x.1.due, .int .i64 x.1.lane, x.2]
def LatOk (w : World) (own : Own) (X : List (Ml × Value)) : Prop := ∀ x ∈ X, ∃ g, own g = some .lat ∧ MsgAt w g x.2 x.1.msg
def LaterIs (w : World) (own : Own) (v : Value) (L : List Ml) : Prop :=
  ∃ X : List (Ml × Value), X.map Prod.fst = L ∧ w.ownsRow 0 115 3 v X.length (latCells X) ∧ (∀ b, v.ownBlock = some b → own b = some .later) ∧ LatOk w own X

theorem ownsRow_keep {w w' : World} {base : Nat} {e : TypeId} {size n : Nat} {v : Value} {xs : List Value} (h : w.ownsRow base e size v n xs)
    (hk : ∀ b, v.ownBlock = some b → w'.heap[b]? = w.heap[b]?) : w'.ownsRow base e size v n xs := by
  refine ⟨h.1, ?_⟩
  rcases h.2 with hn | ⟨g, cap, cur, rfl, hb, hg, rest⟩
  · exact .inl hn
  · exact .inr ⟨g, cap, cur, rfl, hb, (hk g rfl).trans hg, rest⟩

theorem FatesIs.keep {w w' : World} {own own' : Own} {v : Value} {F : List (Int × Int)} (h : FatesIs w own v F)
    (hk : ∀ b, own b = some .fates → own' b = some .fates ∧ w'.heap[b]? = w.heap[b]?) : FatesIs w' own' v F :=
  ⟨ownsRow_keep h.1 fun b hb => (hk b (h.2 b hb)).2, fun b hb => (hk b (h.2 b hb)).1⟩
theorem LatOk.keep {w w' : World} {own own' : Own} {X : List (Ml × Value)} (h : LatOk w own X)
    (hk : ∀ b, own b = some .lat → own' b = some .lat ∧ w'.heap[b]? = w.heap[b]?) : LatOk w' own' X :=
  fun x hx => let ⟨g, hg, hm⟩ := h x hx; ⟨g, (hk g hg).1, hm.of_block (hk g hg).2⟩
theorem LaterIs.keep {w w' : World} {own own' : Own} {v : Value} {L : List Ml} (h : LaterIs w own v L)
    (hk : ∀ b, own b = some .later ∨ own b = some .lat → own' b = own b ∧ w'.heap[b]? = w.heap[b]?) : LaterIs w' own' v L := by
  obtain ⟨X, h1, h2, h3, h4⟩ := h
  refine ⟨X, h1, ownsRow_keep h2 fun b hb => (hk b (.inl (h3 b hb))).2, fun b hb => ?_, h4.keep fun b hb => ?_⟩
  · rw [(hk b (.inl (h3 b hb))).1]; exact h3 b hb
  · exact ⟨by rw [(hk b (.inr hb)).1]; exact hb, (hk b (.inr hb)).2⟩

/-- The array of the queues. -/
def ArrIs (w : World) (own : Own) (A : Ga) (nl cap : Nat) : Prop :=
  own A.arr = some .arr ∧ ∃ cur, w.heap[A.arr]? = some (.cells cur 83 (0, 0)) ∧ nl ≤ cap ∧ ∀ i, i < nl → cur[i]? = some (.pointer (some ⟨A.q i, 0, none⟩))
theorem ArrIs.keep {w w' : World} {own own' : Own} {A : Ga} {nl cap : Nat} (h : ArrIs w own A nl cap)
    (hk : own A.arr = some .arr → own' A.arr = some .arr ∧ w'.heap[A.arr]? = w.heap[A.arr]?) : ArrIs w' own' A nl cap := by
  obtain ⟨h1, cur, h2, h3⟩ := h
  exact ⟨(hk h1).1, cur, (hk h1).2.trans h2, h3⟩
theorem ArrIs.cell {w : World} {own : Own} {A : Ga} {nl cap : Nat} (h : ArrIs w own A nl cap) {i : Nat} (hi : i < nl) : w.cell? ⟨A.arr, i, none⟩ = some (.pointer (some ⟨A.q i, 0, none⟩)) := by
  obtain ⟨_, cur, h2, _, h3⟩ := h
  exact cell_of_heap h2 i (h3 i hi)

/-- The net's own block. -/
def HeadIs (w : World) (own : Own) (A : Ga) (nl cap : Nat) (fv : Value) (sent now : Nat) (lv : Value) : Prop :=
  own A.net = some .net ∧ w.heap[A.net]? = some (.cells #[.slice (some ⟨A.arr, 0, none⟩) nl cap, fv, .int .i64 sent, .int .i64 now, lv] 82 (0, 0))

/-- MEMORY READS AS THE NET N at A. -/
def NetIs (w : World) (own : Own) (A : Ga) (N : Nt) : Prop :=
  Lies w own ∧ ∃ cap fv lv, HeadIs w own A N.nl cap fv N.sent N.now lv ∧ ArrIs w own A N.nl cap ∧ FatesIs w own fv N.fates ∧ LaterIs w own lv N.later ∧
    ∀ i, i < N.nl → LaneIs w own A i (N.lane i) (N.lane i).shut

/-- Another net is as it was. -/
theorem NetIs.apart {w w' : World} {own own₂ : Own} {A : Ga} {N : Nt} (h : NetIs w own A N) (hm : Mv own₂.has w w') (hd : ∀ b, own b = none ∨ own₂ b = none) : NetIs w' own A N := by
  obtain ⟨h0, cap, fv, lv, h1, h2, h3, h4, h5⟩ := h
  have key : ∀ b t, own b = some t → w'.heap[b]? = w.heap[b]? := fun b t hb => hm.block b (h0 b t hb) (fun hh => by
    rcases hd b with h | h
    · rw [h] at hb; cases hb
    · exact hh h)
  exact ⟨h0.mono hm.size, cap, fv, lv, ⟨h1.1, (key _ _ h1.1).trans h1.2⟩, h2.keep (fun ho => ⟨ho, key _ _ ho⟩), h3.keep (fun b hb => ⟨hb, key _ _ hb⟩),
    h4.keep (fun b hb => ⟨rfl, by rcases hb with hb | hb <;> exact key _ _ hb⟩), fun i hi => (h5 i hi).keep fun b t hb _ => ⟨hb, key _ _ hb⟩⟩
end Go.Proofs.Ytadalodjnbnjkaa
