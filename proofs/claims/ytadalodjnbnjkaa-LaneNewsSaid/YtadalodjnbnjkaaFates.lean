/- fates: the layer's, and the document's. -/
import Derived.Test.YtadalodjnbnjkaaSends2
namespace Go.Proofs.Ytadalodjnbnjkaa
open Go.RowKit Go.Conc

/-- Fates that came in: two cells each. -/
def FateRow (w : World) (a : Option Addr) (n : Nat) (F : List (Int × Int)) : Prop :=
  F.length = n ∧ (n = 0 ∨ ∃ b off, a = some ⟨b, off, none⟩ ∧ ∀ j, j < n → w.cell? ⟨b, off + j * 2, none⟩ = some (.int .i64 (F.getD j (0, 0)).1) ∧ w.cell? ⟨b, off + j * 2 + 1, none⟩ = some (.int .i64 (F.getD j (0, 0)).2))
theorem FateRow.still {w w' : World} {a : Option Addr} {n : Nat} {F : List (Int × Int)} (h : FateRow w a n F) (hb : Below w.heap.size w w') : FateRow w' a n F := by
  refine ⟨h.1, h.2.imp id ?_⟩
  rintro ⟨b, off, h1, h2⟩
  refine ⟨b, off, h1, fun j hj => ?_⟩
  obtain ⟨q1, q2⟩ := h2 j hj
  have hl := World.block_lt_of_cell? w _ q1
  have e : ∀ j, w'.cell? ⟨b, j, none⟩ = w.cell? ⟨b, j, none⟩ := fun j => hb.cell (p := ⟨b, j, none⟩) hl
  exact ⟨(e _).trans q1, (e _).trans q2⟩
theorem Try.info96 : (Try.prog.info? 96).map (fun i => (i.zero, i.size, i.bytes)) = some (some (.agg #[.int .i64 0, .int .i64 0]), 2, 16) := by kernel_rfl

/-- The two lists that fates gathers. -/
def FtRel (w : World) (F : List (Int × Int)) (k m : Nat) (fv gv : Value) (wr : World) : Prop :=
  Below w.heap.size w wr ∧ wr.ownsRow w.heap.size 63 2 fv k (fateCells (F.take k)) ∧ wr.ownsRow w.heap.size 96 2 gv m (fateCells (F.take m)) ∧ ∀ b, fv.ownBlock = some b → gv.ownBlock ≠ some b
theorem fateCells_take {F : List (Int × Int)} {k : Nat} (hk : k < F.length) : fateCells (F.take (k + 1)) = fateCells (F.take k) ++ [.int .i64 (F.getD k (0, 0)).1, .int .i64 (F.getD k (0, 0)).2] := by
  rw [List.take_succ_eq_append_getElem hk, fateCells_snoc, List.getD_eq_getElem?_getD, List.getElem?_eq_getElem hk]
  rfl
theorem FtRel.first {w wr wr' : World} {F : List (Int × Int)} {k m gg cap : Nat} {fv gv : Value} {o : Obj} (h : FtRel w F k m fv gv wr) (hk : k < F.length)
    (hgrow : ((wr.alloc o).drew).grownBy wr' fv.ownBlock) (hat : fv.ownBlock = some gg ∨ gg = wr.heap.size + 1)
    (hown : wr'.ownsRow w.heap.size 63 2 (.slice (some ⟨gg, 0, none⟩) (k + 1) cap) (k + 1) (fateCells (F.take k) ++ [.int .i64 (F.getD k (0, 0)).1, .int .i64 (F.getD k (0, 0)).2])) : FtRel w F (k + 1) m (.slice (some ⟨gg, 0, none⟩) (k + 1) cap) gv wr' := by
  obtain ⟨h1, h2, h3, h4⟩ := h
  have hs := h1.size
  refine ⟨((h1.alloc (by omega) o).drew).grown hgrow (by simp [World.drew]; omega) (fun b hb => (h2.lt b hb).1), by rw [fateCells_take hk]; exact hown, ?_, fun b hb => ?_⟩
  · refine ownsRow_keep h3 fun b hb => ?_
    have hl : b < wr.heap.size := (h3.lt b hb).2
    refine (hgrow.block b (by simp [World.drew]; omega) (fun e => h4 b e.symm hb)).trans ?_
    exact Below.heap_alloc wr o b hl
  · intro hg
    have : b = gg := by simpa [Value.ownBlock] using hb.symm
    subst this
    rcases hat with hat | hat
    · exact h4 b hat hg
    · have := (h3.lt b hg).2; omega
theorem FtRel.second {w wr wr' : World} {F : List (Int × Int)} {k m gg cap : Nat} {fv gv : Value} {o : Obj} (h : FtRel w F k m fv gv wr) (hk : m < F.length)
    (hgrow : ((wr.alloc o).drew).grownBy wr' gv.ownBlock) (hat : gv.ownBlock = some gg ∨ gg = wr.heap.size + 1)
    (hown : wr'.ownsRow w.heap.size 96 2 (.slice (some ⟨gg, 0, none⟩) (m + 1) cap) (m + 1) (fateCells (F.take m) ++ [.int .i64 (F.getD m (0, 0)).1, .int .i64 (F.getD m (0, 0)).2])) : FtRel w F k (m + 1) fv (.slice (some ⟨gg, 0, none⟩) (m + 1) cap) wr' := by
  obtain ⟨h1, h2, h3, h4⟩ := h
  have hs := h1.size
  refine ⟨((h1.alloc (by omega) o).drew).grown hgrow (by simp [World.drew]; omega) (fun b hb => (h3.lt b hb).1), ?_, by rw [fateCells_take hk]; exact hown, fun b hb => ?_⟩
  · refine ownsRow_keep h2 fun b hb => ?_
    have hl : b < wr.heap.size := (h2.lt b hb).2
    refine (hgrow.block b (by simp [World.drew]; omega) (fun e => h4 b hb e.symm)).trans ?_
    exact Below.heap_alloc wr o b hl
  · intro hg
    have : gg = b := by simpa [Value.ownBlock] using hg
    subst this
    rcases hat with hat | hat
    · exact h4 gg hb hat
    · have := (h2.lt gg hb).2; omega

/-- What fates leaves. -/
def Fated2 (w : World) (F : List (Int × Int)) (e : Ending) (w' : World) : Prop :=
  ∃ fv gv, e = .returned (.tuple #[fv, gv]) ∧ FtRel w F F.length F.length fv gv w'

set_option maxRecDepth 100000 in
set_option maxHeartbeats 3200000 in
theorem fates_any (w : World) (a : Option Addr) (n c : Nat) (F : List (Int × Int)) (h : FateRow w a n F) (hn : n * 16 ≤ 140737488351232) : Calls Try.prog 31 #[.slice a n c] w (Fated2 w F) := by
  obtain ⟨i0, hi0, hz0, hz1, hz2⟩ := info_parts Try.info63
  obtain ⟨i1, hi1, hy0, hy1, hy2⟩ := info_parts Try.info96
  have HF := Lib.hid h
  clear h
  go_enter Try.func31, Try.ntmps31
  go_wp2_with fail
  go_loopw [4, 5, 6] (fun fv gv i wr => ∃ k : Nat, k ≤ n ∧ i = .int .i64 k ∧ FtRel w F k k fv gv wr) (fun _ _ i _ => n - (intOf i).toNat)
  case atStart => exact ⟨0, Nat.zero_le _, rfl, Below.refl _ _, World.ownsRow_nil _ _ _ _, World.ownsRow_nil _ _ _ _, fun b hb => by simp [Value.ownBlock] at hb⟩
  case round =>
    obtain ⟨k, hk, rfl, hrel⟩ := hrel
    have HR := Lib.hid hrel
    have hb := hrel.1
    have hsz := hb.size
    clear hrel
    by_cases hlt : k < n
    · have hkk : (k : Int) < n := by omega
      have hk0 : (0 : Int) ≤ k := by omega
      obtain ⟨b, off, rfl, hc⟩ := HF.out.2.resolve_left (by omega)
      obtain ⟨q1, q2⟩ := hc k hlt
      have hbl : b < w.heap.size := World.block_lt_of_cell? _ _ q1
      have HBL : Hid (b < w.heap.size) := hbl
      have e : ∀ j, wr.cell? ⟨b, j, none⟩ = w.cell? ⟨b, j, none⟩ := fun j => hb.cell (p := ⟨b, j, none⟩) hbl
      have c0 := (e _).trans q1
      have c1 := (e _).trans q2
      have hne : b ≠ wr.heap.size := by omega
      have hFl : k < F.length := by rw [HF.out.1]; exact hlt
      have HFL : Hid (k < F.length) := hFl
      obtain ⟨x, hx⟩ : ∃ x, x = (F.getD k (0, 0)).1 := ⟨_, rfl⟩
      obtain ⟨y, hy⟩ : ∃ y, y = (F.getD k (0, 0)).2 := ⟨_, rfl⟩
      rw [← hx] at c0
      rw [← hy] at c1
      have HX := Lib.hid hx
      have HY := Lib.hid hy
      have HC := Lib.hid hc
      clear e q1 q2 hc hx hy hb hFl
      go_wp2_with fail
      go_region_law (refine step_append_lies _ (by rfl) _ _ _ (by rfl) w.heap.size 63 i0 _ 2 16 Try.underlying64 hi0 hz0 hz1 hz2 rfl (by omega) u4 k (fateCells (F.take k)) (by rfl) ((HR.out.2.1.alloc _).drew) ⟨wr.heap.size, 0, none⟩ 1 1 [.int .i64 x, .int .i64 y] (by rfl) (by rfl) (World.news_of_block (cs := #[.int .i64 x, .int .i64 y]) (t := 63) (fr := (0, 0)) (heap_alloc_new wr _)) (by simp [Value.oneCell']) (by omega) (by unfold maxLen; omega) (by omega) (by simp; omega) (wr.heap.size + 1) (by simp) ?_; intro gg cap w3 hown1 hgrow hat hlt1)
      all_goals
        have hR := FtRel.first HR.out HFL.out hgrow hat (by rw [← HX.out, ← HY.out]; exact hown1)
        have hb3 := hR.1
        have hsz3 := hb3.size
        obtain ⟨p1, p2⟩ := HC.out k hlt
        have e3 : ∀ j, w3.cell? ⟨b, j, none⟩ = w.cell? ⟨b, j, none⟩ := fun j => hb3.cell (p := ⟨b, j, none⟩) HBL.out
        have d0 := (e3 _).trans p1
        have d1 := (e3 _).trans p2
        rw [← HX.out] at d0
        rw [← HY.out] at d1
        have hne3 : b ≠ w3.heap.size := by have := HBL.out; omega
        have HR3 := Lib.hid hR
        clear hown1 hgrow hat hlt1 hR hb3 p1 p2 e3 c0 c1
        go_wp2_with fail
        go_region_law (refine step_append_lies _ (by rfl) _ _ _ (by rfl) w.heap.size 96 i1 _ 2 16 Try.underlying91 hi1 hy0 hy1 hy2 rfl (by omega) u5 k (fateCells (F.take k)) (by rfl) ((HR3.out.2.2.1.alloc _).drew) ⟨w3.heap.size, 0, none⟩ 1 1 [.int .i64 x, .int .i64 y] (by rfl) (by rfl) (World.news_of_block (cs := #[.int .i64 x, .int .i64 y]) (t := 96) (fr := (0, 0)) (heap_alloc_new w3 _)) (by simp [Value.oneCell']) (by omega) (by unfold maxLen; omega) (by omega) (by simp; omega) (w3.heap.size + 1) (by simp) ?_; intro gg2 cap2 w4 hown2 hgrow2 hat2 hlt2)
        all_goals
          have hR := FtRel.second HR3.out HFL.out hgrow2 hat2 (by rw [← HX.out, ← HY.out]; exact hown2)
          have HR4 := Lib.hid hR
          clear hown2 hgrow2 hat2 hlt2 hR
          go_wp2
          go_roundw
          case rel => exact ⟨k + 1, by omega, by go_num, HR4.out⟩
          case measure => simp [intOf]; omega
    · have hge : (n : Int) ≤ k := by omega
      obtain rfl : k = n := by omega
      go_wp2
      go_ret2
      have hR := HR.out
      have e : k = F.length := HF.out.1.symm
      rw [e] at hR
      exact ⟨_, _, rfl, hR⟩
end Go.Proofs.Ytadalodjnbnjkaa
