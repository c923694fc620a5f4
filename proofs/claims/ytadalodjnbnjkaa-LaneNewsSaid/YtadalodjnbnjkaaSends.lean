/- sends: a net on which all messages of these lanes were sent, each at its time. -/
import Derived.Test.YtadalodjnbnjkaaRunP
import Derived.Test.YtadalodjnbnjkaaHold2
import Derived.Deep.RegionLaw
namespace Go.Proofs.Ytadalodjnbnjkaa
open Go.RowKit Go.Conc

/-- The messages in memory: five cells each. -/
def SentsIn (w : World) (lb : Nat) (S : List Snt) : Prop :=
  ∀ i s, S[i]? = some s → ∃ a c, w.cell? ⟨lb, i * 5, none⟩ = some (.int .i64 s.gap) ∧ w.cell? ⟨lb, i * 5 + 1, none⟩ = some (.int .i64 s.lane) ∧ w.cell? ⟨lb, i * 5 + 2, none⟩ = some (.slice a s.data.length c) ∧
    w.cell? ⟨lb, i * 5 + 3, none⟩ = some (.int .i64 s.fate.1) ∧ w.cell? ⟨lb, i * 5 + 4, none⟩ = some (.int .i64 s.fate.2) ∧ RowIn w a s.data.length s.data
theorem SentsIn.still {w w' : World} {lb : Nat} {S : List Snt} (h : SentsIn w lb S) (hb : Below w.heap.size w w') : SentsIn w' lb S := by
  intro i s hs
  obtain ⟨a, c, h1, h2, h3, h4, h5, h6⟩ := h i s hs
  have hl := World.block_lt_of_cell? w _ h1
  have e : ∀ j, w'.cell? ⟨lb, j, none⟩ = w.cell? ⟨lb, j, none⟩ := fun j => hb.cell (p := ⟨lb, j, none⟩) hl
  exact ⟨a, c, (e _).trans h1, (e _).trans h2, (e _).trans h3, (e _).trans h4, (e _).trans h5, h6.still hb⟩

/-- New of two lanes over fates that a loop has gathered. -/
theorem New_row (wr : World) (B : Nat) (fv : Value) (F : List (Int × Int)) (h : wr.ownsRow B 63 2 fv F.length (fateCells F)) (hmay : ∀ f ∈ F, mayF f) (hlen : F.length ≤ 65536) :
    Calls Try.prog 12 #[.int .i64 2, fv] wr (Newed wr 2 F) := by
  rcases h.2 with ⟨rfl, hz⟩ | ⟨g, cap, cur, rfl, hb, hg, h1, h2, h3, h4⟩
  · obtain rfl : F = [] := List.eq_nil_of_length_eq_zero hz
    exact New_nil_2 wr
  · have hc := h.cells (g := g) rfl
    have e1 : ∀ i, (⟨g, 0, none⟩ : Addr).add i = ⟨g, i, none⟩ := fun i => by unfold Addr.add; split <;> simp_all
    exact New_ok wr 2 g F.length cap F (by omega) (by omega) rfl hlen hmay fun j hj => by
      have := fateCells_get F j hj
      have q1 := hc _ _ this.1
      have q2 := hc _ _ this.2
      rw [e1] at q1 q2
      exact ⟨q1, q2⟩

def FRel (w : World) (b1 b2 : Bool) (S : List Snt) (k : Nat) (fv : Value) (wr : World) : Prop :=
  Below w.heap.size w wr ∧ wr.ownsRow w.heap.size 63 2 fv (fatesOf b1 b2 (S.take k)).length (fateCells (fatesOf b1 b2 (S.take k)))

theorem fatesOf_snoc (b1 b2 : Bool) (S : List Snt) (s : Snt) : fatesOf b1 b2 (S ++ [s]) = fatesOf b1 b2 S ++ (if sel b1 b2 s = true then [s.fate] else []) := by
  unfold fatesOf
  rw [List.filter_append, List.map_append]
  congr 1
  by_cases h : sel b1 b2 s = true <;> simp [h]
theorem fatesOf_len (b1 b2 : Bool) (S : List Snt) : (fatesOf b1 b2 S).length ≤ S.length := by
  unfold fatesOf; rw [List.length_map]; exact List.length_filter_le _ _
theorem fateCells_snoc (F : List (Int × Int)) (f : Int × Int) : fateCells (F ++ [f]) = fateCells F ++ [.int .i64 f.1, .int .i64 f.2] := by simp [fateCells]

theorem FRel.no {w wr : World} {b1 b2 : Bool} {S : List Snt} {k : Nat} {fv : Value} {s : Snt} (h : FRel w b1 b2 S k fv wr) (hs : S[k]? = some s) (hn : sel b1 b2 s = false) : FRel w b1 b2 S (k + 1) fv wr := by
  have hk := (List.getElem?_eq_some_iff.1 hs)
  have e : fatesOf b1 b2 (S.take (k + 1)) = fatesOf b1 b2 (S.take k) := by
    rw [List.take_succ_eq_append_getElem hk.1, hk.2, fatesOf_snoc, hn]; simp
  unfold FRel
  rw [e]; exact h
theorem FRel.yes {w wr wr' : World} {b1 b2 : Bool} {S : List Snt} {k gg cap : Nat} {fv : Value} {s : Snt} (h : FRel w b1 b2 S k fv wr) (hs : S[k]? = some s) (hn : sel b1 b2 s = true) {o : Obj}
    (hgrow : ((wr.alloc o).drew).grownBy wr' fv.ownBlock)
    (hown : wr'.ownsRow w.heap.size 63 2 (.slice (some ⟨gg, 0, none⟩) ((fatesOf b1 b2 (S.take k)).length + 1) cap) ((fatesOf b1 b2 (S.take k)).length + 1) (fateCells (fatesOf b1 b2 (S.take k)) ++ [.int .i64 s.fate.1, .int .i64 s.fate.2])) :
    FRel w b1 b2 S (k + 1) (.slice (some ⟨gg, 0, none⟩) ((fatesOf b1 b2 (S.take k)).length + 1) cap) wr' := by
  have hk := (List.getElem?_eq_some_iff.1 hs)
  have e : fatesOf b1 b2 (S.take (k + 1)) = fatesOf b1 b2 (S.take k) ++ [s.fate] := by
    rw [List.take_succ_eq_append_getElem hk.1, hk.2, fatesOf_snoc, hn]; simp
  unfold FRel
  rw [e, List.length_append, fateCells_snoc]
  have hs' := h.1.size
  exact ⟨((h.1.alloc (by omega) o).drew).grown hgrow (by simp [World.drew]; omega) (fun b hb => (h.2.lt b hb).1), hown⟩

/-- What sends leaves. -/
def SendsP (w : World) (b1 b2 : Bool) (S : List Snt) (e : Ending) (w' : World) : Prop :=
  ∃ A, e = .returned (.tuple #[.pointer (some ⟨A.net, 0, none⟩), .int .i64 (gaps S), .bool true]) ∧ Holds w A (sendsN b1 b2 S) [] w'
end Go.Proofs.Ytadalodjnbnjkaa
