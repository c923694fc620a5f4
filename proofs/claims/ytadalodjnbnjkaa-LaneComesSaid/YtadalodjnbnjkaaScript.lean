/- script: at most 24 messages, each tamed. -/
import Derived.Test.YtadalodjnbnjkaaTamed
import Derived.Deep.AppendLies
namespace Go.Proofs.Ytadalodjnbnjkaa
open Go.RowKit Go.Conc

/-- Messages as they came in. -/
def RawIn (z w : World) (a : Option Addr) (len : Nat) : Prop :=
  ∀ i, i < len → ∃ (b off : Nat) (g l k x : Int) (ad : Option Addr) (dl n dc : Nat) (row : List Int), a = some ⟨b, off, none⟩ ∧ w.cell? ⟨b, off + i * 5, none⟩ = some (.int .i64 g) ∧ w.cell? ⟨b, off + i * 5 + 1, none⟩ = some (.int .i64 l) ∧
    w.cell? ⟨b, off + i * 5 + 2, none⟩ = some (.slice ad dl dc) ∧ w.cell? ⟨b, off + i * 5 + 3, none⟩ = some (.int .i64 k) ∧ w.cell? ⟨b, off + i * 5 + 4, none⟩ = some (.int .i64 x) ∧
    (n ≤ 4096 ∧ n ≤ dc) ∧ RowIn z ad n row ∧ ∀ W, Calls Try.prog 23 #[.slice ad dl dc] W (fun e w' => e = .returned (.slice ad n dc) ∧ W = w')
theorem RawIn.still {z w w' : World} {a : Option Addr} {len : Nat} (h : RawIn z w a len) (hb : Below w.heap.size w w') : RawIn z w' a len := by
  intro i hi
  obtain ⟨b, off, g, l, k, x, ad, dl, n, dc, row, h0, h1, h2, h3, h4, h5, h6, h7, h8⟩ := h i hi
  have hl := World.block_lt_of_cell? w _ h1
  have e : ∀ j, w'.cell? ⟨b, j, none⟩ = w.cell? ⟨b, j, none⟩ := fun j => hb.cell (p := ⟨b, j, none⟩) hl
  exact ⟨b, off, g, l, k, x, ad, dl, n, dc, row, h0, (e _).trans h1, (e _).trans h2, (e _).trans h3, (e _).trans h4, (e _).trans h5, h6, h7, h8⟩

/-- A message and where its bytes lie. -/
structure SntA where
  s : Snt
  a : Option Addr
  c : Nat
def SntA.cells (x : SntA) : List Value := [.int .i64 x.s.gap, .int .i64 x.s.lane, .slice x.a x.s.data.length x.c, .int .i64 x.s.fate.1, .int .i64 x.s.fate.2]
def sntCells (L : List SntA) : List Value := L.flatMap SntA.cells
theorem sntCells_snoc (L : List SntA) (x : SntA) : sntCells (L ++ [x]) = sntCells L ++ x.cells := by simp [sntCells]
def ScRel (z w : World) (L : List SntA) (v : Value) (wr : World) : Prop :=
  Below w.heap.size w wr ∧ wr.ownsRow w.heap.size 55 5 v L.length (sntCells L) ∧ ∀ x ∈ L, (TameS x.s ∧ x.s.fate.2 ≤ 40 ∧ x.s.data.length ≤ x.c) ∧ RowIn z x.a x.s.data.length x.s.data
theorem ScRel.start (z w : World) : ScRel z w [] (.slice none 0 0) w := ⟨Below.refl _ _, World.ownsRow_nil _ _ _ _, fun x h => by simp at h⟩
theorem ScRel.snoc {z w wr w1 wr' : World} {L : List SntA} {v v' : Value} {x : SntA} (h : ScRel z w L v wr) (hx : (TameS x.s ∧ x.s.fate.2 ≤ 40 ∧ x.s.data.length ≤ x.c) ∧ RowIn z x.a x.s.data.length x.s.data) (hb : Below w.heap.size w w1)
    (hgrow : w1.grownBy wr' v.ownBlock) (hown : wr'.ownsRow w.heap.size 55 5 v' (L.length + 1) (sntCells L ++ x.cells)) : ScRel z w (L ++ [x]) v' wr' := by
  refine ⟨hb.grown hgrow hb.size (fun b hb => (h.2.1.lt b hb).1), ?_, fun y hy => ?_⟩
  · rw [List.length_append, sntCells_snoc]; exact hown
  · simp only [List.mem_append, List.mem_singleton] at hy
    rcases hy with hy | rfl
    · exact h.2.2 y hy
    · exact hx
def Scripted (z w : World) (e : Ending) (w' : World) : Prop := ∃ L v, e = .returned v ∧ L.length ≤ 24 ∧ ScRel z w L v w'

theorem Try.info55 : (Try.prog.info? 55).map (fun i => (i.zero, i.size, i.bytes)) = some (some (.agg #[.int .i64 0, .int .i64 0, .slice none 0 0, .int .i64 0, .int .i64 0]), 5, 56) := by kernel_rfl

set_option maxRecDepth 100000 in
set_option maxHeartbeats 3200000 in
theorem script_any (z w : World) (a : Option Addr) (len cap : Nat) (hin : RawIn z w a len) : Calls Try.prog 20 #[.slice a len cap] w (Scripted z w) := by
  obtain ⟨i0, hi0, hz0, hz1, hz2⟩ := info_parts Try.info55
  have HIN := Lib.hid hin
  clear hin
  go_enter Try.func20, Try.ntmps20
  go_wp2_with fail
  go_loopw [3, 4] (fun lv i wr => ∃ (k : Nat) (L : List SntA), k ≤ 24 ∧ i = .int .i64 k ∧ L.length = k ∧ ScRel z w L lv wr) (fun _ i _ => 24 - (intOf i).toNat)
  case atStart => exact ⟨0, [], by omega, rfl, rfl, ScRel.start z w⟩
  case round =>
    obtain ⟨k, L, hk, rfl, hLk, hrel⟩ := hrel
    have HR := Lib.hid hrel
    have HLK := Lib.hid hLk
    clear hrel hLk
    by_cases h1 : k < len
    · have h1' : (k : Int) < len := by omega
      by_cases h2 : k < 24
      · have h2' : (k : Int) < 24 := by omega
        have hk0 : (0 : Int) ≤ k := by omega
        obtain ⟨b, off, g, l, kd, x, ad, dl, n, dc, row, rfl, q0, q1, q2, q3, q4, ⟨hn, hndc⟩, hrow, hs⟩ := HIN.out k h1
        have hbl : b < w.heap.size := World.block_lt_of_cell? w _ q0
        have e : ∀ j, wr.cell? ⟨b, j, none⟩ = w.cell? ⟨b, j, none⟩ := fun j => HR.out.1.cell (p := ⟨b, j, none⟩) hbl
        have c0 := (e _).trans q0
        have c1 := (e _).trans q1
        have c2 := (e _).trans q2
        have c3 := (e _).trans q3
        have c4 : wr.cell? ⟨b, off + k * 5 + 3 + 1, none⟩ = some (.int .i64 x) := (e _).trans q4
        have HS := Lib.hid hs
        have HROW := Lib.hid hrow
        have hrl := hrow.1
        clear hs hrow e q0 q1 q2 q3 q4 hbl
        go_wp2_with fail
        refine (tamed_any wr g l kd x ad dl n dc HS.out).mono ?_
        rintro r wb ⟨gap, lane, kk, xx, rfl, hg, hl, hkk, hxx, hbel⟩
        have hT : TameS ⟨gap, lane, row, ((kk : Int), (xx : Int))⟩ := ⟨by show gap ≤ 20; omega, hl, by show row.length ≤ 4096; omega, by unfold mayF; simp; omega⟩
        have HTT := Lib.hid hT
        have HB := Lib.hid (((Mv.of_below HR.out.1).trans (Mv.of_below hbel)).below)
        have hown : wb.ownsRow w.heap.size 55 5 u3 k (sntCells L) := by have := HR.out.2.1; rw [HLK.out] at this; exact ownsRow_below this hbel
        have hsz := HB.out.size
        clear hT hbel
        go_wp2_with (at_builtin; refine wpList_append_lies _ rfl _ _ 51 rfl w.heap.size 55 i0 _ 5 56 Try.underlying51 hi0 hz0 hz1 hz2 rfl (by decide) _ k (sntCells L) rfl ?c0 ⟨wb.heap.size, 0, none⟩ 1 1 [.int .i64 gap, .int .i64 lane, .slice ad n dc, .int .i64 kk, .int .i64 xx] rfl rfl ?c1 ?c2 ?c3 ?c4 ?c5 ?c6 (wb.heap.size + 1) ?c7 ?_)
        case c0 => exact hown.alloc _
        try (case c1 => exact World.news_of_block (cs := #[.int .i64 gap, .int .i64 lane, .slice ad n dc, .int .i64 kk, .int .i64 xx]) (t := 55) (fr := (0, 0)) (heap_alloc_new wb _))
        try (case c2 => first | (intro u hu; simp at hu; rcases hu with rfl | rfl | rfl | rfl | rfl <;> rfl) | simp [Value.oneCell'])
        try (case c3 => omega)
        try (case c4 => unfold maxLen; omega)
        try (case c5 => omega)
        try (case c6 => first | omega | (simp; omega))
        try (case c7 => simp)
        intro gg cp w1 hown1 hgrow hat hlt1
        have hR : ScRel z w (L ++ [⟨⟨gap, lane, row, ((kk : Int), (xx : Int))⟩, ad, dc⟩]) (.slice (some ⟨gg, 0, none⟩) (k + 1) cp) w1 := by
          refine ScRel.snoc HR.out ⟨⟨HTT.out, by show (xx : Int) ≤ 40; omega, by show row.length ≤ dc; omega⟩, ?_⟩ (HB.out.alloc hsz _) hgrow ?_
          · show RowIn z ad row.length row
            rw [hrl]; exact HROW.out
          · rw [HLK.out]
            show World.ownsRow _ _ _ _ _ _ (sntCells L ++ [.int .i64 gap, .int .i64 lane, .slice ad row.length dc, .int .i64 kk, .int .i64 xx])
            rw [hrl]; exact hown1
        have HRR := Lib.hid hR
        clear hown1 hgrow hat hR hown
        go_wp2_with fail
        go_roundw
        case rel => exact ⟨k + 1, _, by omega, by go_num, by rw [List.length_append, HLK.out]; rfl, HRR.out⟩
        case measure => simp [intOf]; omega
      · have h2' : ¬ (k : Int) < 24 := by omega
        go_wp2_with fail
        go_ret
        exact ⟨L, _, rfl, by rw [HLK.out]; omega, HR.out⟩
    · have h1' : ¬ (k : Int) < len := by omega
      go_wp2_with fail
      go_ret
      exact ⟨L, _, rfl, by rw [HLK.out]; omega, HR.out⟩
end Go.Proofs.Ytadalodjnbnjkaa
