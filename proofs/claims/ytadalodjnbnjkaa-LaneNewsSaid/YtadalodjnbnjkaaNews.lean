/- LaneNews, walked. -/
import Derived.Test.YtadalodjnbnjkaaBegin
namespace Go.Proofs.Ytadalodjnbnjkaa
open Go.RowKit Go.Conc

def argOne : Arg := ⟨1, none, 0, 0, []⟩
theorem argOne_lies (w : World) : argOne.lies w := ⟨⟨rfl, .inl rfl⟩, by show 0 * 16 ≤ _; omega⟩
theorem argOne_good : argOne.good := ⟨by show (1 : Int) ≤ 1 ∧ (1 : Int) ≤ 64; omega, by show 0 ≤ 65536; omega, fun f hf => by simp [argOne] at hf⟩

set_option maxRecDepth 100000 in
set_option maxHeartbeats 1600000 in
theorem news_walk (w : World) (x : Arg) (hx : x.lies w) : Calls Try.prog 4 #[.agg #[.int .i64 x.lanes, .slice x.a x.n x.c]] w fun e w' => e = .returned (.bool true) ∧ Below w.heap.size w w' := by
  obtain ⟨W1, hW1⟩ : ∃ W1, W1 = w.alloc (.cells #[.int .i64 x.lanes, .slice x.a x.n x.c] 30) := ⟨_, rfl⟩
  have hb1 : Below w.heap.size w W1 := by rw [hW1]; exact (Below.refl _ _).alloc (Nat.le_refl _) _
  have hbx : W1.heap[w.heap.size]? = some (.cells #[.int .i64 x.lanes, .slice x.a x.n x.c] 30 (0, 0)) := by rw [hW1]; exact heap_alloc_new _ _
  have hbegin : Calls Try.prog 14 #[.agg #[.int .i64 x.lanes, .slice x.a x.n x.c], .agg #[.int .i64 1, .slice none 0 0]] W1 (Begun W1 x argOne) := begin_any W1 x argOne (hx.still hb1) (argOne_lies W1)
  have HBEG := Lib.hid hbegin
  have HB1 := Lib.hid hb1
  have HBX := Lib.hid hbx
  have HW1 := Lib.hid hW1
  clear hb1 hbx hbegin hx hW1
  go_enter Try.func4, Try.ntmps4
  go_upto_region 2 with (go_at_call 14; rw [← HW1.out]; refine HBEG.out.mono ?_; rintro r w2 ⟨pb, bb, st, rfl, hP, hE0, hE1, hE2⟩)
  have hbel : Below w.heap.size w w2 := ((Mv.of_below HB1.out).trans (Mv.of_below hP.below)).below
  have hbox : w2.heap[w.heap.size]? = some (.cells #[.int .i64 x.lanes, .slice x.a x.n x.c] 30 (0, 0)) := (hP.below.block _ (lt_of_heap HBX.out)).trans HBX.out
  have cx : w2.cell? ⟨w.heap.size, 0, none⟩ = some (.int .i64 x.lanes) := cell_of_heap hbox 0 rfl
  obtain ⟨F, hF⟩ := hP
  obtain ⟨own, hB, _⟩ := hF.hold .book
  have hp := hB.2.2.1
  obtain ⟨s1, hs1⟩ : ∃ s, st 1 = some s := by
    rcases hE1 with ⟨_, A, G, h⟩ | ⟨h, _⟩
    · exact ⟨_, h⟩
    · exact absurd argOne_good h
  rw [hs1] at hp
  have c1 : w2.cell? ⟨pb, 4 + 1, none⟩ = some (.bool true) := cell_of_heap hp 5 rfl
  have HBEL := Lib.hid hbel
  rcases hE0 with ⟨hg, A, G, h0⟩ | ⟨hg, h0⟩
  · rw [h0] at hp
    have c2 : w2.cell? ⟨pb, 4, none⟩ = some (.bool true) := cell_of_heap hp 4 rfl
    have c3 : w2.cell? ⟨pb, 0, none⟩ = some (.pointer (some ⟨A.net, 0, none⟩)) := cell_of_heap hp 0 rfl
    have hN0 := hF.hold (.net 0)
    simp only [resOf, h0, sideNet] at hN0
    obtain ⟨own', hN, _⟩ := hN0
    obtain ⟨nl, hnl⟩ : ∃ n : Nat, x.lanes = n := ⟨x.lanes.toNat, by have := hg.1; omega⟩
    have hnl2 : 1 ≤ nl ∧ nl ≤ 64 := by have := hg.1; omega
    rw [hnl] at hN cx
    rw [Int.toNat_natCast] at hN
    have hwt : ∀ d, Calls Try.prog 15 #[.pointer (some ⟨A.net, 0, none⟩), .int .i64 ((nl : Int) - 1)] (w2.drewN d) fun e w' => e = .returned (.tuple #[.int .i64 0, .int .i64 0]) ∧ w' = w2.drewN d := fun d => by
      obtain ⟨g0, cap, fv, lv, q1, q2, q3, q4, q5⟩ := hN.still ((Mv.refl _ _).drewN d)
      obtain ⟨a1, a2, a3, vs, sn, rn, a4, a5⟩ := q5 (nl - 1) (by show nl - 1 < nl; omega)
      have := waiting_any _ A.net A.arr nl cap (A.q (nl - 1)) (A.c (nl - 1)) 64 sn rn (nl - 1) vs _ (cell_of_heap q1.2 0 rfl) (by omega) (q2.cell (by show nl - 1 < nl; omega)) (cell_of_heap a3 0 rfl) a4
      have e : vs.size = 0 := a5.1
      rw [e, show ((nl - 1 : Nat) : Int) = (nl : Int) - 1 by omega] at this
      exact this.mono fun e w' h => ⟨h.1, h.2.symm⟩
    have hwn : ∀ d, Calls Try.prog 15 #[.pointer (some ⟨A.net, 0, none⟩), .int .i64 nl] (w2.drewN d) fun e w' => e = .returned (.tuple #[.int .i64 0, .int .i64 192]) ∧ w' = w2.drewN d := fun d => by
      obtain ⟨g0, cap, fv, lv, q1, _⟩ := hN.still ((Mv.refl _ _).drewN d)
      exact (waiting_no _ A.net nl cap _ nl (cell_of_heap q1.2 0 rfl) (.inr (Int.le_refl _))).mono fun e w' h => ⟨h.1, h.2.symm⟩
    have hnow : ∀ d, Calls Try.prog 16 #[.pointer (some ⟨A.net, 0, none⟩)] (w2.drewN d) fun e w' => e = .returned (.int .i64 0) ∧ w2.drewN d = w' := fun d => by
      obtain ⟨g0, cap, fv, lv, q1, _⟩ := hN.still ((Mv.refl _ _).drewN d)
      exact now_any _ A.net 0 (cell_of_heap q1.2 3 rfl)
    have HWT := Lib.hid hwt
    have HWN := Lib.hid hwn
    have HNOW := Lib.hid hnow
    have hn1 : (1 : Int) ≤ nl := by omega
    have hn2 : (nl : Int) ≤ 64 := by omega
    clear hwt hwn hnow hN hp hF hB hs1 h0 hE1 hE2 hg hbel hbox hnl
    go_upto_region 6 with fail
    have hwrap : IntKind.i64.wrap ((nl : Int) - 1) = (nl : Int) - 1 := IntWalk.i64_in _ (by omega)
    go_quiet ((go_at_call 15; exact Calls.quiet_of_same (HWT.out _)))
    go_wp2_with fail
    go_upto_region 7 with fail
    go_quiet ((go_at_call 15; exact (HWN.out _).mono fun _ _ h => ⟨h.1, _, h.2⟩))
    go_wp2_with (first | (go_at_call 13; refine (num_any _ _).mono ?_; rintro r w' ⟨rfl, rfl⟩) | (go_at_call 16; refine (HNOW.out _).mono ?_; rintro r w' ⟨rfl, rfl⟩))
    go_ret
    exact ⟨rfl, ((Mv.of_below HBEL.out).drewN _).below⟩
  · rw [h0] at hp
    have c2 : w2.cell? ⟨pb, 4, none⟩ = some (.bool false) := cell_of_heap hp 4 rfl
    clear hp hF hB hs1 h0 hE1 hE2 hg hbel hbox
    go_wp2_with fail
    go_ret
    exact ⟨rfl, HBEL.out⟩
end Go.Proofs.Ytadalodjnbnjkaa
