/- A slice of messages that came in, opened. -/
import Derived.Test.YtadalodjnbnjkaaScript
import Derived.Lib.SmallJoins
import Derived.Deep.Slices
import Derived.ChangeSlices
namespace Go.Proofs.Ytadalodjnbnjkaa
open Go.RowKit Go.Conc Go.ChangeShapes Go.WideShapes Go.ChangeAt

theorem Try.cells55 : Try.prog.cellsOf 55 = 5 := by kernel_rfl
theorem Try.cells53 : Try.prog.cellsOf 53 = 2 := by kernel_rfl
theorem Try.cells47 : Try.prog.cellsOf 47 = 1 := by kernel_rfl
theorem Try.cells3 : Try.prog.cellsOf 3 = 1 := by kernel_rfl
theorem Try.cells5 : Try.prog.cellsOf 5 = 1 := by kernel_rfl

/-- A slice of bytes, a cell of it: cut by short. -/
theorem short_cell {H : Type} {enc : TypeId × Value → H} {W : World} {fuel : Nat} {cs : List Value} {y : DataW H × List MemPlace} (h : DataW.trod enc Try.prog W 0 (fun _ => true) true fuel 47 cs = some y) :
    ∃ (ad : Option Addr) (dl n dc : Nat) (row : List Int), cs = [.slice ad dl dc] ∧ (n ≤ 4096 ∧ n ≤ dc) ∧ RowIn W ad n row ∧ ∀ W, Calls Try.prog 23 #[.slice ad dl dc] W (fun e w' => e = .returned (.slice ad n dc) ∧ W = w') := by
  rcases open_ints Try.underlying47 Try.underlying5 Try.cells5 h with ⟨rfl, _⟩ | ⟨x, l, c, zs, rfl, _, hl, hm, hz, _, hcell, hwz⟩
  · obtain ⟨n, row, h1, h2, h3, h4⟩ := short_row (w := W) (a := none) (len := 0) (cap := 0) (zs := []) (.inl ⟨rfl, rfl, rfl, rfl⟩)
    exact ⟨none, 0, n, 0, row, rfl, ⟨h1, h2⟩, h3, h4⟩
  · obtain ⟨n, row, h1, h2, h3, h4⟩ := short_row (w := W) (a := some x) (len := l) (cap := c) (zs := zs) (.inr ⟨x, rfl, hl, hm, by simpa using hz, hcell, hwz⟩)
    exact ⟨some x, l, n, c, row, rfl, ⟨h1, h2⟩, h3, h4⟩

theorem list5 {α : Type} {l : List α} (h : l.length = 5) : ∃ v0 v1 v2 v3 v4, l = [v0, v1, v2, v3, v4] := by
  match l, h with
  | [v0, v1, v2, v3, v4], _ => exact ⟨v0, v1, v2, v3, v4, rfl⟩

set_option maxRecDepth 100000 in
theorem rawIn_of_trod {H : Type} {enc : TypeId × Value → H} {W : World} {fuel : Nat} {a0 : Option Addr} {len0 cap0 : Nat} {x : DataW H × List MemPlace}
    (h : DataW.trod enc Try.prog W 0 (fun _ => true) true fuel 51 [.slice a0 len0 cap0] = some x) : RawIn W W a0 len0 ∧ len0 ≤ maxLen := by
  rcases Go.Deep.open_slice Try.underlying51 h with ⟨hcs, _⟩ | ⟨a, len, cap, m, n, D, Pl, hcs, hb, hl, hm, hmm, rfl, hx⟩
  · simp at hcs
    obtain ⟨rfl, rfl, rfl⟩ := hcs
    exact ⟨fun i hi => by omega, by unfold maxLen; omega⟩
  · simp at hcs
    obtain ⟨rfl, rfl, rfl⟩ := hcs
    simp only [if_true] at hmm
    subst hmm
    refine ⟨fun i hi => ?_, by omega⟩
    obtain ⟨cs', h1, h2⟩ := hx i (by omega)
    rw [Try.cells55] at h1
    obtain ⟨_, hlen, hcell⟩ := World.cells?_some h1
    obtain ⟨y0, y1, y2, y3, k, _, _, g0, g1, g2, g3⟩ := Go.Joins.trod_struct4 Try.underlying55 h2
    obtain ⟨v0, v1, v2, v3, v4, rfl⟩ := list5 hlen
    simp [Try.cells3, Try.cells47, Try.cells53] at g0 g1 g2 g3
    obtain ⟨g, hg, _⟩ := DataW.trod_int Try.underlying3 g0
    obtain ⟨l, hl1, _⟩ := DataW.trod_int Try.underlying3 g1
    obtain ⟨ad, dl, nn, dc, row, hd, hn, hrow, hs⟩ := short_cell g2
    obtain ⟨z0, z1, k', _, _, u0, u1⟩ := trod_struct2 Try.underlying53 g3
    simp [Try.cells3] at u0 u1
    obtain ⟨kk, hk, _⟩ := DataW.trod_int Try.underlying3 u0
    obtain ⟨xx, hxx, _⟩ := DataW.trod_int Try.underlying3 u1
    simp at hg hl1 hd hk hxx
    subst hg hl1 hd hk hxx
    have hs0 : a.spot = none := by
      obtain ⟨cs0, p1, _⟩ := hx 0 (by omega)
      rw [Try.cells55] at p1
      obtain ⟨_, plen, pcell⟩ := World.cells?_some p1
      obtain ⟨w0, w1, w2, w3, w4, rfl⟩ := list5 plen
      have e0 := pcell 0 (by omega)
      cases hsp : a.spot with
      | none => rfl
      | some y => unfold World.cell? Addr.add at e0; simp [hsp] at e0; split at e0 <;> simp at e0
    obtain ⟨ab, ao, asp⟩ := a
    simp only at hs0
    subst hs0
    have e1 : ∀ p q, ((⟨ab, p, none⟩ : Addr).add q) = ⟨ab, p + q, none⟩ := fun p q => by unfold Addr.add; split <;> simp_all
    have c0 := hcell 0 (by omega)
    have c1 := hcell 1 (by omega)
    have c2 := hcell 2 (by omega)
    have c3 := hcell 3 (by omega)
    have c4 := hcell 4 (by omega)
    rw [e1, e1] at c0 c1 c2 c3 c4
    simp at c0 c1 c2 c3 c4
    exact ⟨ab, ao, g, l, kk, xx, ad, dl, nn, dc, row, rfl, c0, c1, c2, c3, c4, hn, hrow, hs⟩
end Go.Proofs.Ytadalodjnbnjkaa
