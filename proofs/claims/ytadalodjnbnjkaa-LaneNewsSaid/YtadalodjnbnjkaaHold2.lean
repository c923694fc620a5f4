/- Beside a net that a statement holds: lent, same, short, num. -/
import Derived.Test.YtadalodjnbnjkaaTwo
import Derived.OpenShut
namespace Go.Proofs.Ytadalodjnbnjkaa
open Go.RowKit Go.Conc

/-- A slice of bytes that came in, cut by short. -/
theorem short_row {w : World} {a : Option Addr} {len cap : Nat} {zs : List Int}
    (h : (a = none ∧ len = 0 ∧ cap = 0 ∧ zs = []) ∨
      ∃ x, a = some x ∧ len ≤ cap ∧ cap ≤ maxLen ∧ zs.length = cap ∧ (∀ i, i < zs.length → w.cell? (x.add i) = some (.int .u8 (zs.getD i 0))) ∧ ∀ n ∈ zs, (Lit.int .u8 n).wf = true) :
    ∃ n l, n ≤ 4096 ∧ n ≤ cap ∧ RowIn w a n l ∧ ∀ W, Calls Try.prog 23 #[.slice a len cap] W (fun e w' => e = .returned (.slice a n cap) ∧ W = w') := by
  rcases h with ⟨rfl, rfl, rfl, rfl⟩ | ⟨x, rfl, hl, hm, hz, hc, _⟩
  · exact ⟨0, [], by omega, by omega, ⟨rfl, .inl rfl⟩, fun W => short_le W _ _ _ (by omega)⟩
  · have row : ∀ n, n ≤ len → RowIn w (some x) n (zs.take n) := fun n hn => by
      refine ⟨by rw [List.length_take]; omega, ?_⟩
      by_cases h0 : n = 0
      · exact .inl h0
      · obtain ⟨b, off, rfl, hcc⟩ := ints_at hc (by omega)
        refine .inr ⟨b, off, rfl, fun j hj => ?_⟩
        rw [hcc j (by omega)]
        congr 2
        rw [List.getD_eq_getElem?_getD, List.getD_eq_getElem?_getD, List.getElem?_take, if_pos hj]
    by_cases h4 : len ≤ 4096
    · exact ⟨len, zs.take len, h4, hl, row len (Nat.le_refl _), fun W => short_le W _ _ _ h4⟩
    · exact ⟨4096, zs.take 4096, by omega, by omega, row 4096 (by omega), fun W => short_gt W x len cap (by omega) hl⟩

section
variable {w wr : World} {A : Ga} {N : Nt} {K : List Nat}
def LentH (w : World) (A : Ga) (N : Nt) (K : List Nat) (l : List Int) (n : Nat) (wr : World) (e : Ending) (w' : World) : Prop :=
  ∃ g, e = .returned (.slice (some ⟨g, 0, none⟩) (n + 200) (n + 200)) ∧ RowIn w' (some ⟨g, 0, none⟩) n l ∧ Holds w A N (g :: K) w' ∧ Kept w K wr w'
theorem Holds.lent (h : Holds w A N K wr) {a : Option Addr} {n c : Nat} {l : List Int} (hr : RowIn wr a n l) (hsz : n ≤ 1099511627776) :
    Calls Try.prog 24 #[.slice a n c] wr (LentH w A N K l n wr) := by
  refine (lent_any wr a n c l hr hsz).mono ?_
  rintro e w' ⟨g, cur, rfl, h1, h2, h3, h4, h5, h6⟩
  exact ⟨g, rfl, ⟨hr.1, .inr ⟨g, 0, rfl, fun j hj => by rw [Nat.zero_add]; exact cell_of_heap h3 j (h5 j hj)⟩⟩, h.new (Mv.of_below h2) h1 (lt_of_heap h3), Kept.still (Mv.of_below h2) h⟩

/-- A step that writes nothing. -/
def CalmH (w : World) (A : Ga) (N : Nt) (K : List Nat) (v : Value) (wr : World) (e : Ending) (w' : World) : Prop := e = .returned v ∧ Holds w A N K w' ∧ w'.heap = wr.heap
theorem Holds.same (h : Holds w A N K wr) {a1 a2 : Option Addr} {n1 c1 n2 c2 : Nat} {l1 l2 : List Int} (h1 : RowIn wr a1 n1 l1) (h2 : RowIn wr a2 n2 l2) (hs : n1 ≤ 1099511627776) :
    Calls Try.prog 22 #[.slice a1 n1 c1, .slice a2 n2 c2] wr (CalmH w A N K (.bool (sameB l1 l2)) wr) := by
  refine (same_any wr a1 a2 n1 c1 n2 c2 l1 l2 h1 h2 hs).mono ?_
  rintro e w' ⟨rfl, d, rfl⟩
  exact ⟨rfl, h.still ((Mv.refl _ _).drewN d), rfl⟩
theorem RowIn.of_heap {w w' : World} {a : Option Addr} {n : Nat} {l : List Int} (h : RowIn w a n l) (hh : w'.heap = w.heap) : RowIn w' a n l := h.keep fun ad _ => by rw [hh]
theorem RowIn.kept {w' : World} {b : Nat} {off n : Nat} {l : List Int} (h : RowIn wr (some ⟨b, off, none⟩) n l) (hk : Kept w K wr w') (hb : b ∈ K) : RowIn w' (some ⟨b, off, none⟩) n l :=
  h.keep fun ad ha => by cases ha; exact hk.2 b (.inl hb)
theorem Holds.row (h : Holds w A N K wr) {a : Option Addr} {n : Nat} {l : List Int} (hr : RowIn w a n l) : RowIn wr a n l := hr.still h.below
end
end Go.Proofs.Ytadalodjnbnjkaa
