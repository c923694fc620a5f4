/- What a net is begun with, as it came in. -/
import Derived.Test.YtadalodjnbnjkaaPlay14
import Derived.Lib.SmallJoins
import Derived.Deep.Slices
import Derived.ChangeSlices
import Derived.SizedLaws
namespace Go.Proofs.Ytadalodjnbnjkaa
open Go.RowKit Go.Conc Go.ChangeShapes Go.WideShapes Go.ChangeAt

theorem Try.cells53' : Try.prog.cellsOf 53 = 2 := by kernel_rfl
theorem Try.cells3' : Try.prog.cellsOf 3 = 1 := by kernel_rfl
theorem Try.cells30 : Try.prog.cellsOf 30 = 2 := by kernel_rfl
theorem Try.bytes53 : Try.prog.bytesOf 53 = 16 := by kernel_rfl
theorem list2 {α : Type} {l : List α} (h : l.length = 2) : ∃ v0 v1, l = [v0, v1] := by
  match l, h with
  | [v0, v1], _ => exact ⟨v0, v1, rfl⟩

/-- A slice of fates that came in, opened: the list that it reads. -/
theorem fates_of_trod {H : Type} {enc : TypeId × Value → H} {W : World} {fuel : Nat} {v : Value} {x : DataW H × List MemPlace}
    (h : DataW.trod enc Try.prog W 0 (fun _ => true) true fuel 28 [v] = some x) :
    ∃ a n c F, v = .slice a n c ∧ FateRow W a n F ∧ ((n = 0 ∧ x.1 = .nil) ∨ ∃ elems spare : List (DataW H), x.1 = .slice elems spare ∧ elems.length = n) := by
  rcases Go.Deep.open_slice Try.underlying28 h with ⟨hcs, rfl⟩ | ⟨a, len, cap, m, n, D, Pl, hcs, hb, hl, hm, hmm, rfl, hx⟩
  · simp at hcs
    subst hcs
    exact ⟨none, 0, 0, [], rfl, ⟨rfl, .inl rfl⟩, .inl ⟨rfl, rfl⟩⟩
  · simp at hcs
    subst hcs
    simp only [if_true] at hmm
    subst hmm
    have key : ∀ i, i < len → ∃ k y : Int, W.cell? (a.add (i * 2)) = some (.int .i64 k) ∧ W.cell? ((a.add (i * 2)).add 1) = some (.int .i64 y) := fun i hi => by
      obtain ⟨cs', h1, h2⟩ := hx i (by omega)
      rw [Try.cells53'] at h1
      obtain ⟨_, hlen, hcell⟩ := World.cells?_some h1
      obtain ⟨y0, y1, k, _, _, g0, g1⟩ := trod_struct2 Try.underlying53 h2
      obtain ⟨v0, v1, rfl⟩ := list2 hlen
      simp [Try.cells3'] at g0 g1
      obtain ⟨g, hg, _⟩ := DataW.trod_int Try.underlying3 g0
      obtain ⟨l, hl1, _⟩ := DataW.trod_int Try.underlying3 g1
      simp at hg hl1
      subst hg hl1
      have c0 := hcell 0 (by omega)
      have c1 := hcell 1 (by omega)
      refine ⟨g, l, ?_, by simpa using c1⟩
      have e : (a.add (i * 2)).add 0 = a.add (i * 2) := by unfold Addr.add; split <;> simp_all
      rw [e] at c0
      simpa using c0
    obtain ⟨V, hV⟩ := Go.Deep.choose_lt (α := Int × Int) (n := len) (p := fun i f => W.cell? (a.add (i * 2)) = some (.int .i64 f.1) ∧ W.cell? ((a.add (i * 2)).add 1) = some (.int .i64 f.2)) (fun i hi => by
      obtain ⟨k, y, h1, h2⟩ := key i hi
      exact ⟨(k, y), h1, h2⟩)
    refine ⟨some a, len, m, (List.range len).map V, rfl, ⟨by simp, ?_⟩, .inr ⟨_, _, rfl, by simp⟩⟩
    by_cases h0 : len = 0
    · exact .inl h0
    · right
      have hs0 : a.spot = none := by
        have e0 := (hV 0 (by omega)).1
        cases hsp : a.spot with
        | none => rfl
        | some y => unfold World.cell? Addr.add at e0; simp [hsp] at e0; split at e0 <;> simp at e0
      obtain ⟨ab, ao, asp⟩ := a
      simp only at hs0
      subst hs0
      have e1 : ∀ p q, ((⟨ab, p, none⟩ : Addr).add q) = ⟨ab, p + q, none⟩ := fun p q => by unfold Addr.add; split <;> simp_all
      refine ⟨ab, ao, rfl, fun j hj => ?_⟩
      obtain ⟨q1, q2⟩ := hV j hj
      rw [e1] at q1
      rw [e1, e1] at q2
      have eg : ((List.range len).map V).getD j (0, 0) = V j := by simp [List.getD_eq_getElem?_getD, hj]
      rw [eg]
      exact ⟨q1, q2⟩

set_option maxRecDepth 100000 in
/-- A net's argument that came in, opened. -/
theorem arg_of_trod {H : Type} {enc : TypeId × Value → H} {W : World} {b0 : Nat} {v : Value} {d : DataW H} {p : List MemPlace} (hv : Value.okWide Try.prog W .any b0 30 v) (h : DataW.Trod enc Try.prog W 0 (fun _ => true) true 30 v d p)
    (hw : ∀ n ∈ d.weights Try.prog 30, n ≤ reachBytes) : ∃ x : Arg, v = .agg #[.int .i64 x.lanes, .slice x.a x.n x.c] ∧ x.lies W := by
  obtain ⟨v0, v1, y0, y1, n, rfl, rfl, rfl, h0, h1⟩ := Go.Joins.open_agg2 Try.underlying30 (by kernel_rfl) Try.cells30 hv h
  obtain ⟨l, hl, _⟩ := DataW.trod_int Try.underlying3 h0
  obtain ⟨a, m, c, F, rfl, hF, hx⟩ := fates_of_trod h1
  simp at hl
  subst hl
  refine ⟨⟨l, a, m, c, F⟩, rfl, hF, ?_⟩
  rcases hx with ⟨rfl, _⟩ | ⟨elems, spare, hx, hlen⟩
  · show 0 * 16 ≤ _; omega
  · have := hw ((elems.length + spare.length) * 16) (by
      simp [DataW.weights, DataW.weightsEach, Try.underlying30, Try.underlying28, hx, Try.bytes53])
    simp only [reachBytes] at this
    show m * 16 ≤ _
    omega
end Go.Proofs.Ytadalodjnbnjkaa
