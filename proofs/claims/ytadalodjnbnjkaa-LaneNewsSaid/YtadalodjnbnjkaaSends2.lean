/- sends, walked. -/
import Derived.Test.YtadalodjnbnjkaaSends
import Derived.Deep.RegionHeld3
namespace Go.Proofs.Ytadalodjnbnjkaa
open Go.RowKit Go.Conc

theorem runS_one_yes {b1 b2 : Bool} {M : Nt} {s : Snt} (h : sel b1 b2 s = true) : runS b1 b2 M [s] = (M.ticks s.gap).send s.lane s.data := by
  show stepS b1 b2 M s = _
  unfold stepS; rw [if_pos h]
theorem runS_one_no {b1 b2 : Bool} {M : Nt} {s : Snt} (h : sel b1 b2 s = false) : runS b1 b2 M [s] = M.ticks s.gap := by
  show stepS b1 b2 M s = _
  unfold stepS; rw [if_neg (by rw [h]; simp)]

set_option maxRecDepth 100000 in
set_option maxHeartbeats 3200000 in
theorem sends_any (w : World) (la : Option Addr) (lb n c : Nat) (S : List Snt) (b1 : Bool) (hla : n = 0 ∨ la = some ⟨lb, 0, none⟩) (hn : S.length = n) (hn2 : n ≤ 30) (hS : ∀ s ∈ S, TameS s) (hin : SentsIn w lb S) :
    Calls Try.prog 21 #[.slice la n c, .bool b1, .bool true] w (SendsP w b1 true S) := by
  obtain ⟨i0, hi0, hz0, hz1, hz2⟩ := info_parts Try.info63
  have HIN := Lib.hid hin
  have HS := Lib.hid hS
  have HLA := Lib.hid hla
  have HN := Lib.hid hn
  have hF0 : FRel w b1 true S 0 (.slice none 0 0) w := ⟨Below.refl _ _, World.ownsRow_nil _ _ _ _⟩
  have HF0 := Lib.hid hF0
  clear hin hS hla hn hF0
  go_enter Try.func21, Try.ntmps21
  go_wp2_with fail
  go_loopw [9, 10] (fun fv i wr => ∃ k : Nat, k ≤ n ∧ i = .int .i64 k ∧ FRel w b1 true S k fv wr) (fun _ i _ => n - (intOf i).toNat)
  case atStart => exact ⟨0, Nat.zero_le _, rfl, HF0.out⟩
  case round =>
    obtain ⟨k, hk, rfl, hrel⟩ := hrel
    have HR := Lib.hid hrel
    clear hrel
    by_cases hlt : k < n
    · obtain ⟨⟨gap, lane, data, fk, fn⟩, hs⟩ : ∃ s, S[k]? = some s := ⟨_, List.getElem?_eq_getElem (by rw [HN.out]; exact hlt)⟩
      have hst := HS.out _ (List.mem_of_getElem? hs)
      obtain ⟨a, cd, c0, c1, c2, c3, c4, hrow⟩ := (HIN.out.still HR.out.1) k _ hs
      have hlb : lb < wr.heap.size := World.block_lt_of_cell? _ _ c0
      obtain rfl : la = some ⟨lb, 0, none⟩ := HLA.out.resolve_left (by omega)
      have HSS := Lib.hid hs
      have hkk : (k : Int) < n := by omega
      have hk0 : (0 : Int) ≤ k := by omega
      have hfl := fatesOf_len b1 true (S.take k)
      rw [List.length_take] at hfl
      simp only at c0 c1 c3 c4
      have c4' : wr.cell? ⟨lb, k * 5 + 3 + 1, none⟩ = some (.int .i64 fn) := c4
      have hne : lb ≠ wr.heap.size := by omega
      have hl2 := hst.2.1
      simp only at hl2
      clear hs hrow c2 hst
      by_cases hl : lane = 0
      · subst hl
        cases b1
        · have HSEL : Hid (sel false true ⟨gap, 0, data, fk, fn⟩ = false) := rfl
          go_wp2
          go_roundw
          case rel => exact ⟨k + 1, by omega, by go_num, FRel.no HR.out HSS.out HSEL.out⟩
          case measure => simp [intOf]; omega
        · have HSEL : Hid (sel true true ⟨gap, 0, data, fk, fn⟩ = true) := rfl
          go_wp2_with fail
          go_region_law (refine step_append_lies _ (by rfl) _ _ _ (by rfl) w.heap.size 63 i0 _ 2 16 Try.underlying64 hi0 hz0 hz1 hz2 rfl (by omega) u9 (fatesOf true true (S.take k)).length (fateCells (fatesOf true true (S.take k))) (by rfl) ((HR.out.2.alloc _).drew) ⟨wr.heap.size, 0, none⟩ 1 1 [.int .i64 fk, .int .i64 fn] (by rfl) (by rfl) (World.news_of_block (cs := #[.int .i64 fk, .int .i64 fn]) (t := 63) (fr := (0, 0)) (heap_alloc_new wr _)) (by simp [Value.oneCell']) (by omega) (by unfold maxLen; omega) (by omega) (by have := HR.out.1.size; simp; omega) (wr.heap.size + 1) (by simp) ?_; intro gg cap w3 hown1 hgrow hat hlt1)
          all_goals
            have hR := FRel.yes HR.out HSS.out HSEL.out hgrow hown1
            have HRR := Lib.hid hR
            clear hgrow hown1 hat hlt1 hR
            go_wp2
            go_roundw
            case rel => exact ⟨k + 1, by omega, by go_num, HRR.out⟩
            case measure => simp [intOf]; omega
      · obtain rfl : lane = 1 := by omega
        have HSEL : Hid (sel b1 true ⟨gap, 1, data, fk, fn⟩ = true) := by cases b1 <;> rfl
        go_wp2_with fail
        go_region_law (refine step_append_lies _ (by rfl) _ _ _ (by rfl) w.heap.size 63 i0 _ 2 16 Try.underlying64 hi0 hz0 hz1 hz2 rfl (by omega) u9 (fatesOf b1 true (S.take k)).length (fateCells (fatesOf b1 true (S.take k))) (by rfl) ((HR.out.2.alloc _).drew) ⟨wr.heap.size, 0, none⟩ 1 1 [.int .i64 fk, .int .i64 fn] (by rfl) (by rfl) (World.news_of_block (cs := #[.int .i64 fk, .int .i64 fn]) (t := 63) (fr := (0, 0)) (heap_alloc_new wr _)) (by simp [Value.oneCell']) (by omega) (by unfold maxLen; omega) (by omega) (by have := HR.out.1.size; simp; omega) (wr.heap.size + 1) (by simp) ?_; intro gg cap w3 hown1 hgrow hat hlt1)
        all_goals
          have hR := FRel.yes HR.out HSS.out HSEL.out hgrow hown1
          have HRR := Lib.hid hR
          clear hgrow hown1 hat hlt1 hR
          go_wp2
          go_roundw
          case rel => exact ⟨k + 1, by omega, by go_num, HRR.out⟩
          case measure => simp [intOf]; omega
    · have hge : (n : Int) ≤ k := by omega
      obtain rfl : k = n := by omega
      have hR := HR.out
      unfold FRel at hR
      rw [List.take_of_length_le (by rw [HN.out]; omega)] at hR
      have hmay : ∀ f ∈ fatesOf b1 true S, mayF f := by
        intro f hf
        unfold fatesOf at hf
        obtain ⟨s, hs1, rfl⟩ := List.mem_map.1 hf
        exact (HS.out s (List.mem_filter.1 hs1).1).2.2.2
      have hfl := fatesOf_len b1 true S
      rw [HN.out] at hfl
      have HRR := Lib.hid hR
      have HMAY := Lib.hid hmay
      clear hR hmay
      go_wp2_with fail
      refine (New_row _ w.heap.size _ (fatesOf b1 true S) HRR.out.2 HMAY.out (by omega)).mono ?_
      rintro r wa ⟨own, A, rfl, hN, hbl, ho⟩
      have hH : Holds w A (net0 2 (fatesOf b1 true S)) [] wa := ⟨own, hN, (Mv.of_below HRR.out.1).trans (Mv.of_below hbl), fun b hb => ho b (Nat.lt_of_lt_of_le hb HRR.out.1.size), fun b hb => by simp at hb⟩
      have hok := RunOk.start (fatesOf b1 true S) HMAY.out
      have HH := Lib.hid hH
      have HOK := Lib.hid hok
      clear hH hok hN hbl ho hfl
      go_wp2_with (first
        | (go_at_call 13; refine (num_any _ _).mono ?_; rintro r w' ⟨rfl, rfl⟩))
      go_loopw [13, 14] (fun t i wr => ∃ j : Nat, j ≤ k ∧ i = .int .i64 j ∧ t = .int .i64 (gaps (S.take j)) ∧ Holds w A (runS b1 true (net0 2 (fatesOf b1 true S)) (S.take j)) [] wr) (fun _ i _ => k - (intOf i).toNat)
      case atStart => exact ⟨0, Nat.zero_le _, rfl, rfl, HH.out⟩
      case round =>
        obtain ⟨j, hj, rfl, rfl, hrel⟩ := hrel
        have HQ := Lib.hid hrel
        clear hrel
        have hST : ∀ s ∈ S.take j, TameS s := fun s hs => HS.out s (List.mem_of_mem_take hs)
        have hrun := HOK.out.run hST b1 true
        have hlenj : (S.take j).length ≤ j := by rw [List.length_take]; omega
        rw [Nat.zero_add] at hrun
        have hnow := runS_now hST b1 true HOK.out
        obtain ⟨M, hM⟩ : ∃ M, M = runS b1 true (net0 2 (fatesOf b1 true S)) (S.take j) := ⟨_, rfl⟩
        rw [← hM] at hrun hnow
        have HM := Lib.hid hM
        have HRUN := Lib.hid hrun
        have HNOW := Lib.hid hnow
        clear hST hrun hM hnow
        by_cases hlt2 : j < k
        · obtain ⟨⟨gap, lane, data, fk, fn⟩, hs⟩ : ∃ s, S[j]? = some s := ⟨_, List.getElem?_eq_getElem (by rw [HN.out]; exact hlt2)⟩
          have hst := HS.out _ (List.mem_of_getElem? hs)
          have hlbw : lb < w.heap.size := by
            obtain ⟨a, cd, c0, _⟩ := HIN.out j _ hs
            exact World.block_lt_of_cell? _ _ c0
          obtain ⟨a, cd, c0, c1, c2, c3, c4, hrow⟩ := (HIN.out.still HQ.out.below) j _ hs
          have hlb : lb < wr.heap.size := World.block_lt_of_cell? _ _ c0
          obtain rfl : la = some ⟨lb, 0, none⟩ := HLA.out.resolve_left (by omega)
          have HSS := Lib.hid hs
          have hjj : (j : Int) < k := by omega
          have hj0 : (0 : Int) ≤ j := by omega
          have hq : Holds w A M [] wr := by rw [HM.out]; exact HQ.out
          simp only at c0 c1 c2 hrow
          have hgap : gap ≤ 20 := hst.1
          have hl2 : lane < 2 := hst.2.1
          have hdl : data.length ≤ 4096 := hst.2.2.1
          have hgb : gaps (S.take j) ≤ 600 := by
            have e1 := HNOW.out
            have e2 := HRUN.out.now
            have e3 : (net0 2 (fatesOf b1 true S)).now = 0 := rfl
            omega
          have hfine := HRUN.out.fine (by omega)
          have hrt := HRUN.out.ticks gap hgap
          have HFIT := Lib.hid (hrt.fit (by omega))
          have HNL := Lib.hid hrt.nl
          have HOPN := Lib.hid hrt.opn
          have hdd : (data.length : Int) ≤ (data.length : Int) + 200 := by omega
          have HQ2 := Lib.hid hq
          have HFINE := Lib.hid hfine
          have HROW0 := Lib.hid hrow
          clear hs hst c3 c4 hrow hq hfine hrt
          go_wp2_with fail
          refine (HQ2.out.pass HFINE.out gap (by omega)).mono ?_
          rintro r wp ⟨rfl, hP, hkp⟩
          have p0 : wp.cell? ⟨lb, j * 5, none⟩ = some (.int .i64 gap) := (World.cell?_of_block (w := wr) (a := ⟨lb, j * 5, none⟩) (hkp.2 lb (.inr hlbw))).trans c0
          have p1 : wp.cell? ⟨lb, j * 5 + 1, none⟩ = some (.int .i64 lane) := (World.cell?_of_block (w := wr) (a := ⟨lb, j * 5 + 1, none⟩) (hkp.2 lb (.inr hlbw))).trans c1
          have p2 : wp.cell? ⟨lb, j * 5 + 2, none⟩ = some (.slice a data.length cd) := (World.cell?_of_block (w := wr) (a := ⟨lb, j * 5 + 2, none⟩) (hkp.2 lb (.inr hlbw))).trans c2
          have hrow2 : RowIn wp a data.length data := by
            obtain ⟨a', cd', c0', c1', c2', c3', c4', hrow'⟩ := (HIN.out.still hP.below) j _ HSS.out
            simp only at c2' hrow'
            have : Value.slice a' data.length cd' = .slice a data.length cd := Option.some.inj (c2'.symm.trans p2)
            cases this
            exact hrow'
          have hlbp : lb < wp.heap.size := World.block_lt_of_cell? _ _ p0
          have HP := Lib.hid hP
          have HROW := Lib.hid hrow2
          clear hP hkp hrow2 c0 c1 c2
          by_cases hl : lane = 0
          · subst hl
            cases b1
            · have HSEL : Hid (sel false true ⟨gap, 0, data, fk, fn⟩ = false) := rfl
              go_wp2_with (first
                | (go_at_call 13; refine (num_any _ _).mono ?_; rintro r w' ⟨rfl, rfl⟩))
              go_wp2
              go_roundw
              case rel =>
                have hsnoc : S.take (j + 1) = S.take j ++ [⟨gap, 0, data, fk, fn⟩] := by
                  have := List.getElem?_eq_some_iff.1 HSS.out
                  rw [List.take_succ_eq_append_getElem this.1, this.2]
                refine ⟨j + 1, by omega, by go_num, by rw [hsnoc, gaps_append]; simp [gaps], ?_⟩
                rw [hsnoc, runS_append, ← HM.out]
                have e : runS false true M [⟨gap, 0, data, fk, fn⟩] = M.ticks gap := runS_one_no HSEL.out
                rw [e]
                exact HP.out
              case measure => simp [intOf]; omega
            · have HSEL : Hid (sel true true ⟨gap, 0, data, fk, fn⟩ = true) := rfl
              have p1' : wp.cell? ⟨lb, j * 5 + 1, none⟩ = some (.int .i64 0) := p1
              clear p1
              have p1 := p1'
              clear p1'
              go_wp2_with (first
                | (go_at_call 13; refine (num_any _ _).mono ?_; rintro r w' ⟨rfl, rfl⟩))
              go_wp2_with fail
              have hsnoc : S.take (j + 1) = S.take j ++ [⟨gap, 0, data, fk, fn⟩] := by
                have := List.getElem?_eq_some_iff.1 HSS.out
                rw [List.take_succ_eq_append_getElem this.1, this.2]
              have HSN := Lib.hid hsnoc
              clear hsnoc
              go_region_held3 (fun w' => w'.cell? ⟨lb, j * 5 + 1, none⟩ = some (.int .i64 0) ∧ w'.cell? ⟨lb, j * 5 + 2, none⟩ = some (.slice a data.length cd))
                (go_keep)
                (first
                  | (go_at_call 24; refine ((HP.out.still ((Mv.refl _ _).drew)).lent (RowIn.of_heap HROW.out rfl) (by omega)).mono ?_; rintro e w' ⟨g1, rfl, hr1, hHb, hkb⟩; have k1 : w'.cell? ⟨lb, j * 5 + 1, none⟩ = some (.int .i64 0) := (World.cell?_of_block (w := wp) (a := ⟨lb, j * 5 + 1, none⟩) (hkb.2 lb (.inr hlbw))).trans p1; have k2 : w'.cell? ⟨lb, j * 5 + 2, none⟩ = some (.slice a data.length cd) := (World.cell?_of_block (w := wp) (a := ⟨lb, j * 5 + 2, none⟩) (hkb.2 lb (.inr hlbw))).trans p2; have HHb := Lib.hid hHb; have HR1 := Lib.hid hr1; clear hHb hr1 hkb)
                  | (go_at_call 18; refine (HHb.out.send HFIT.out 0 (by rw [HNL.out]; omega) (HOPN.out 0) ⟨g1, 0, none⟩ data.length (data.length + 200) data (by omega) (by omega) HR1.out (.inl (by simp))).mono ?_; rintro e w'' ⟨rfl, hHc, hkc⟩; have q1 : w''.cell? ⟨lb, j * 5 + 1, none⟩ = some (.int .i64 0) := (World.cell?_of_block (w := w') (a := ⟨lb, j * 5 + 1, none⟩) (hkc.2 lb (.inr hlbw))).trans k1; have q2 : w''.cell? ⟨lb, j * 5 + 2, none⟩ = some (.slice a data.length cd) := (World.cell?_of_block (w := w') (a := ⟨lb, j * 5 + 2, none⟩) (hkc.2 lb (.inr hlbw))).trans k2; have HHc := Lib.hid hHc; clear hHc hkc))
              go_wp2_with (first
                | (go_at_call 13; refine (num_any _ _).mono ?_; rintro r w' ⟨rfl, rfl⟩))
              go_roundw
              case rel =>
                refine ⟨j + 1, by omega, by go_num, by rw [HSN.out, gaps_append]; simp [gaps], ?_⟩
                rw [HSN.out, runS_append, ← HM.out]
                have e : runS true true M [⟨gap, 0, data, fk, fn⟩] = (M.ticks gap).send 0 data := runS_one_yes HSEL.out
                rw [e]
                exact HHc.out.sub (by simp)
              case measure => simp [intOf]; omega
          · obtain rfl : lane = 1 := by omega
            have HSEL : Hid (sel b1 true ⟨gap, 1, data, fk, fn⟩ = true) := by cases b1 <;> rfl
            have p1' : wp.cell? ⟨lb, j * 5 + 1, none⟩ = some (.int .i64 1) := p1
            clear p1
            have p1 := p1'
            clear p1'
            go_wp2_with (first
              | (go_at_call 13; refine (num_any _ _).mono ?_; rintro r w' ⟨rfl, rfl⟩))
            go_wp2_with fail
            have hsnoc : S.take (j + 1) = S.take j ++ [⟨gap, 1, data, fk, fn⟩] := by
              have := List.getElem?_eq_some_iff.1 HSS.out
              rw [List.take_succ_eq_append_getElem this.1, this.2]
            have HSN := Lib.hid hsnoc
            clear hsnoc
            go_region_held3 (fun w' => w'.cell? ⟨lb, j * 5 + 1, none⟩ = some (.int .i64 1) ∧ w'.cell? ⟨lb, j * 5 + 2, none⟩ = some (.slice a data.length cd))
              (go_keep)
              (first
                | (go_at_call 24; refine ((HP.out.still ((Mv.refl _ _).drew)).lent (RowIn.of_heap HROW.out rfl) (by omega)).mono ?_; rintro e w' ⟨g1, rfl, hr1, hHb, hkb⟩; have k1 : w'.cell? ⟨lb, j * 5 + 1, none⟩ = some (.int .i64 1) := (World.cell?_of_block (w := wp) (a := ⟨lb, j * 5 + 1, none⟩) (hkb.2 lb (.inr hlbw))).trans p1; have k2 : w'.cell? ⟨lb, j * 5 + 2, none⟩ = some (.slice a data.length cd) := (World.cell?_of_block (w := wp) (a := ⟨lb, j * 5 + 2, none⟩) (hkb.2 lb (.inr hlbw))).trans p2; have HHb := Lib.hid hHb; have HR1 := Lib.hid hr1; clear hHb hr1 hkb)
                | (go_at_call 18; refine (HHb.out.send HFIT.out 1 (by rw [HNL.out]; omega) (HOPN.out 1) ⟨g1, 0, none⟩ data.length (data.length + 200) data (by omega) (by omega) HR1.out (.inl (by simp))).mono ?_; rintro e w'' ⟨rfl, hHc, hkc⟩; have q1 : w''.cell? ⟨lb, j * 5 + 1, none⟩ = some (.int .i64 1) := (World.cell?_of_block (w := w') (a := ⟨lb, j * 5 + 1, none⟩) (hkc.2 lb (.inr hlbw))).trans k1; have q2 : w''.cell? ⟨lb, j * 5 + 2, none⟩ = some (.slice a data.length cd) := (World.cell?_of_block (w := w') (a := ⟨lb, j * 5 + 2, none⟩) (hkc.2 lb (.inr hlbw))).trans k2; have HHc := Lib.hid hHc; clear hHc hkc))
            go_wp2_with (first
              | (go_at_call 13; refine (num_any _ _).mono ?_; rintro r w' ⟨rfl, rfl⟩))
            go_roundw
            case rel =>
              refine ⟨j + 1, by omega, by go_num, by rw [HSN.out, gaps_append]; simp [gaps], ?_⟩
              rw [HSN.out, runS_append, ← HM.out]
              have e : runS b1 true M [⟨gap, 1, data, fk, fn⟩] = (M.ticks gap).send 1 data := runS_one_yes HSEL.out
              rw [e]
              exact HHc.out.sub (by simp)
            case measure => simp [intOf]; omega
        · have hjj : (k : Int) ≤ j := by omega
          obtain rfl : j = k := by omega
          have etk : S.take j = S := List.take_of_length_le (by rw [HN.out]; omega)
          have hq := HQ.out
          have hn2' := HNOW.out
          rw [HM.out] at hn2'
          have hq3 : ∀ W, Holds w A (runS b1 true (net0 2 (fatesOf b1 true S)) (S.take j)) [] W → Calls Try.prog 16 #[.pointer (some ⟨A.net, 0, none⟩)] W fun r w' => r = .returned (.int .i64 (gaps (S.take j))) ∧ W = w' := fun W hW => by
            have := hW.now
            rw [hn2', show (net0 2 (fatesOf b1 true S)).now = 0 from rfl, Nat.zero_add] at this
            exact this
          have HQ3 := Lib.hid hq3
          have ETK := Lib.hid etk
          clear hq hn2' hq3 etk
          go_wp2_with (go_at_call 16; refine (HQ3.out _ HQ.out).mono ?_; rintro r w' ⟨rfl, rfl⟩)
          go_ret3
          refine ⟨A, ?_, ?_⟩
          · rw [ETK.out]; rfl
          · have := HQ.out
            rw [ETK.out] at this
            exact this
end Go.Proofs.Ytadalodjnbnjkaa
