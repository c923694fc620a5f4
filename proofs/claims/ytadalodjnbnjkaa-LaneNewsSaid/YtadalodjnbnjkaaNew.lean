/- New: a net of empty lanes. -/
import Derived.Test.YtadalodjnbnjkaaWaits
namespace Go.Proofs.Ytadalodjnbnjkaa
open Go.RowKit Go.Conc

/-- The caller's fates. -/
def FateIn (w : World) (fb : Nat) (F : List (Int × Int)) : Prop :=
  ∀ j, j < F.length → w.cell? ⟨fb, j * 2, none⟩ = some (.int .i64 (F.getD j (0, 0)).1) ∧ w.cell? ⟨fb, j * 2 + 1, none⟩ = some (.int .i64 (F.getD j (0, 0)).2)

def lq0 : Lq := ⟨[], false, 0⟩
def net0 (nl : Nat) (F : List (Int × Int)) : Nt := ⟨nl, fun _ => lq0, F, 0, 0, []⟩

theorem Try.info63 : (Try.prog.info? 63).map (fun i => (i.zero, i.size, i.bytes)) = some (some (.agg #[.int .i64 0, .int .i64 0]), 2, 16) := by kernel_rfl
theorem Try.info83 : (Try.prog.info? 83).map (fun i => (i.zero, i.size, i.bytes)) = some (some (.pointer none), 1, 8) := by kernel_rfl
theorem Try.info47 : (Try.prog.info? 47).map (fun i => (i.zero, i.size, i.bytes)) = some (some (.slice none 0 0), 1, 24) := by kernel_rfl

def NewRel (w : World) (nb : Nat) (F : List (Int × Int)) (fv : Value) (k : Nat) (lv : Value) (wr : World) : Prop :=
  ∃ (own : Own) (A : Ga), A.net = nb ∧ Lies wr own ∧ (∀ b, b < w.heap.size → own b = none) ∧ Mv (fun _ => False) w wr ∧ own nb = some .net ∧
    wr.heap[nb]? = some (.cells #[lv, fv, .int .i64 0, .int .i64 0, .slice none 0 0] 82 (0, 0)) ∧
    wr.ownsRow w.heap.size 83 1 lv k ((List.range k).map fun i => .pointer (some ⟨A.q i, 0, none⟩)) ∧ (∀ b, lv.ownBlock = some b → own b = none) ∧ FatesIs wr own fv F ∧
    ∀ i, i < k → LaneIs wr own A i lq0 false

/-- What New leaves where it gives a net. -/
def Newed (w : World) (nl : Nat) (F : List (Int × Int)) (e : Ending) (w' : World) : Prop :=
  ∃ own A, e = .returned (.tuple #[.pointer (some ⟨A.net, 0, none⟩), .int .i64 0]) ∧ NetIs w' own A (net0 nl F) ∧ Below w.heap.size w w' ∧ ∀ b, b < w.heap.size → own b = none

theorem new_end {w wr : World} {nb nl : Nat} {F : List (Int × Int)} {fv lv : Value} (h : NewRel w nb F fv nl lv wr) (hn : 0 < nl) : Newed w nl F (.returned (.tuple #[.pointer (some ⟨nb, 0, none⟩), .int .i64 0])) wr := by
  obtain ⟨own, A, rfl, h1, h2, h3, h4, h5, h6, h7, h8, h9⟩ := h
  obtain ⟨g, cap, cur, rfl, hb, hg, hc1, hc2, hc3, hc4⟩ := h6.2.resolve_left (fun h => by omega)
  have hgn := h7 g rfl
  have hne : ∀ b t, own b = some t → b ≠ g := fun b t hb e => by rw [e, hgn] at hb; cases hb
  have key : ∀ b t, own b = some t → own.put g .arr b = some t ∧ wr.heap[b]? = wr.heap[b]? := fun b t hb => ⟨by rw [Own.put_other _ _ (hne b t hb)]; exact hb, rfl⟩
  refine ⟨own.put g .arr, { A with arr := g }, rfl, ⟨h1.put (lt_of_heap hg) _, cap, fv, .slice none 0 0, ⟨(key _ _ h4).1, h5⟩, ⟨Own.put_same _ _ _, cur, hg, hc1, fun i hi => ?_⟩, h8.keep (fun b hb => key b _ hb), ⟨[], rfl, World.ownsRow_nil _ _ _ _, fun b hb => by simp [Value.ownBlock] at hb, fun x hx => by simp at hx⟩, fun i hi => ?_⟩, h3.below, fun b hb' => ?_⟩
  · have hi : i < nl := hi
    have : (cur.toList.take (nl * 1))[i]? = some (.pointer (some ⟨A.q i, 0, none⟩)) := by
      rw [hc4]
      simp only [List.getElem?_map, List.getElem?_range hi]
      rfl
    rw [List.getElem?_take, if_pos (by omega)] at this
    simpa using this
  · exact (h9 i hi).keep (A := A) fun b t hb _ => key b t hb
  · rw [Own.put_other _ _ (by omega)]; exact h2 b hb'

/-- One lane more. -/
theorem new_step {w wr wr' : World} {nb k q c gg : Nat} {F : List (Int × Int)} {fv lv lv' : Value} {own : Own} {A : Ga} (hA : A.net = nb) (h1 : Lies wr own) (h2 : ∀ b, b < w.heap.size → own b = none) (h3 : Mv (fun _ => False) w wr)
    (h4 : own nb = some .net) (h7 : ∀ b, lv.ownBlock = some b → w.heap.size ≤ b ∧ own b = none ∧ b < wr.heap.size) (h8 : FatesIs wr own fv F) (h9 : ∀ i, i < k → LaneIs wr own A i lq0 false)
    (hq : wr'.heap[q]? = some (.cells #[.chan (some c), .bool false, .int .i64 0] 86 (0, 0))) (hc : wr'.heap[c]? = some (.chan 64 #[] false 0 0 false))
    (hqb : wr.heap.size ≤ q) (hcb : wr.heap.size ≤ c) (hqc : q ≠ c)
    (hnb : wr'.heap[nb]? = some (.cells #[lv', fv, .int .i64 0, .int .i64 0, .slice none 0 0] 82 (0, 0)))
    (hmv : Mv (fun b => b = nb ∨ lv.ownBlock = some b) wr wr')
    (hrow : wr'.ownsRow w.heap.size 83 1 lv' (k + 1) (((List.range k).map fun i => .pointer (some ⟨A.q i, 0, none⟩)) ++ [.pointer (some ⟨q, 0, none⟩)]))
    (hgg : lv'.ownBlock = some gg) (hat : lv.ownBlock = some gg ∨ (wr.heap.size ≤ gg ∧ gg ≠ q ∧ gg ≠ c)) : NewRel w nb F fv (k + 1) lv' wr' := by
  have hne : ∀ b t, own b = some t → b ≠ q ∧ b ≠ c := fun b t hb => by have := h1 b t hb; omega
  have hwn : w.heap.size ≤ nb := by
    rcases Nat.lt_or_ge nb w.heap.size with h | h
    · rw [h2 nb h] at h4; cases h4
    · exact h
  have hk : ∀ b t, own b = some t → ((own.put q (.q k)).put c (.c k)) b = some t := fun b t hb => by
    rw [Own.put_other _ _ (hne b t hb).2, Own.put_other _ _ (hne b t hb).1]; exact hb
  have key : ∀ b t, own b = some t → t ≠ .net → ((own.put q (.q k)).put c (.c k)) b = some t ∧ wr'.heap[b]? = wr.heap[b]? := fun b t hb ht =>
    ⟨hk b t hb, hmv.block b (h1 b t hb) (fun e => by
      rcases e with rfl | e
      · rw [h4] at hb; cases hb; exact ht rfl
      · rw [(h7 b e).2.1] at hb; cases hb)⟩
  refine ⟨(own.put q (.q k)).put c (.c k), { A with q := fun i => if i = k then q else A.q i, c := fun i => if i = k then c else A.c i }, hA, ((h1.mono hmv.size).put (lt_of_heap hq) _).put (lt_of_heap hc) _, ?_, ?_, hk _ _ h4, hnb, ?_, ?_, h8.keep (fun b hb => key b _ hb (by simp)), ?_⟩
  · intro b hb
    have := h3.size
    rw [Own.put_other _ _ (by omega), Own.put_other _ _ (by omega)]; exact h2 b hb
  · refine h3.trans' hmv fun b hb he => ?_
    rcases he with rfl | he
    · omega
    · have := (h7 b he).1; omega
  · have e : ((List.range (k + 1)).map fun i => Value.pointer (some ⟨if i = k then q else A.q i, 0, none⟩)) = ((List.range k).map fun i => Value.pointer (some ⟨A.q i, 0, none⟩)) ++ [.pointer (some ⟨q, 0, none⟩)] := by
      rw [List.range_succ, List.map_append]
      congr 1
      · refine List.map_congr_left fun i hi => ?_
        have : i ≠ k := by have := List.mem_range.1 hi; omega
        simp [this]
      · simp
    simp only [e]; exact hrow
  · intro b hb
    rw [hgg] at hb; cases hb
    rcases hat with h | ⟨ha, hb1, hb2⟩
    · have h5 := h7 gg h
      rw [Own.put_other _ _ (by omega), Own.put_other _ _ (by omega)]; exact h5.2.1
    · rw [Own.put_other _ _ hb2, Own.put_other _ _ hb1]; exact h1.none ha
  · intro i hi
    by_cases hik : i = k
    · subst hik
      refine ⟨by simp only [if_true]; rw [Own.put_other _ _ hqc, Own.put_same], by simp only [if_true]; rw [Own.put_same], by simp only [if_true]; simpa [lq0] using hq, #[], 0, 0, by simp only [if_true]; exact hc, rfl, fun j v l hv hl => by simp at hv⟩
    · have := (h9 i (by omega)).keep (w' := wr') (own' := (own.put q (.q k)).put c (.c k)) fun b t hb ht => key b t hb (by rcases ht with rfl | rfl | ⟨_, rfl⟩ <;> simp)
      unfold LaneIs at this ⊢
      simpa [hik] using this
end Go.Proofs.Ytadalodjnbnjkaa
