/- wait, walked: the loop over the ticks. -/
import Derived.Test.YtadalodjnbnjkaaPlay06
import Derived.Conc.LoneSelect
namespace Go.Proofs.Ytadalodjnbnjkaa
open Go.RowKit Go.Conc

def WaitRel (w : World) (own : Own) (A : Ga) (N : Nt) (t : Nat) (ls : List Nat) (lb c0 k : Nat) (wr : World) : Prop :=
  k ≤ t ∧ ∃ own', NetIs wr own' A (N.ticks k) ∧ Mv own.has w wr ∧ Grows w.heap.size own own' ∧ ListIn wr own' lb ls ∧ own' c0 = none ∧ wr.heap[c0]? = some (.chan 0 #[] true 0 0 false) ∧
    Nt.waitGo ls t N = Nt.waitGo ls (t - k) (N.ticks k)

/-- What wait leaves. -/
def Waited (w : World) (own : Own) (A : Ga) (R : Wr) (e : Ending) (w' : World) : Prop :=
  ∃ v, e = .returned (.tuple #[.int .i64 R.lane, v, .int .i64 R.err]) ∧ ∃ own', NetIs w' own' A R.net ∧ Mv own.has w w' ∧ Grows w.heap.size own own' ∧
    match R.msg with
    | none => v = .slice none 0 0
    | some m => ∃ g, MsgAt w' g v m ∧ own' g = none ∧ (own g ≠ none ∨ w.heap.size ≤ g)

def WaitI (w : World) (own : Own) (A : Ga) (N : Nt) (t : Nat) (ls : List Nat) (lb lcap c0 : Nat) (a : Act) (wr : World) : Prop :=
  ∃ (k : Nat) (u : Nat → Value), a = { tmps := #[.pointer (some ⟨A.net, 0, none⟩), .slice (some ⟨lb, 0, none⟩) ls.length lcap, .int .i64 t, u 3, u 4, u 5, .int .i64 0, .slice none 0 0, .int .i64 0, .chan (some c0), .int .i64 (k : Nat), u 11, u 12, u 13, u 14, u 15, u 16, u 17, u 18, u 19, .chan (some c0), .chan (some c0), u 22, u 23, u 24, u 25, u 26, u 27, u 28, u 29, u 30, u 31, u 32, u 33, u 34, u 35, u 36, u 37, u 38, u 39, u 40, u 41, u 42, u 43, u 44, u 45, u 46, u 47, u 48, u 49, u 50, u 51, u 52, u 53, u 54, u 55, u 56, u 57, u 58, u 59, u 60, u 61, u 62, u 63, u 64, u 65, u 66, u 67, u 68, u 69, u 70, u 71, u 72, u 73, u 74, u 75, u 76, u 77, u 78, u 79, u 80, u 81, u 82, u 83, u 84, u 85, u 86, u 87, u 88, u 89, u 90, u 91, u 92, u 93, u 94, u 95], defers := [] } ∧ WaitRel w own A N t ls lb c0 k wr

theorem wpN_seq_n {P : Program} {Q : Exit → Act → World → Prop} {a : Act} {w : World} {x y : Code} (h : ∀ K : Act → World → Prop, (∀ a w, wpN P y Q a w → K a w) → wpN P x (Exit.then K Q) a w) :
    wpN P (Code.seq x y) Q a w := wpN_seq (h _ fun _ _ h => h)

theorem WaitI_of {w wr : World} {own : Own} {A : Ga} {N : Nt} {t lb lcap c0 k : Nat} {ls : List Nat} {a : Act} (hrel : WaitRel w own A N t ls lb c0 k wr)
    (ha : a = { tmps := #[.pointer (some ⟨A.net, 0, none⟩), .slice (some ⟨lb, 0, none⟩) ls.length lcap, .int .i64 t, a.tmps.getD 3 undef, a.tmps.getD 4 undef, a.tmps.getD 5 undef, .int .i64 0, .slice none 0 0, .int .i64 0, .chan (some c0), .int .i64 (k : Nat), a.tmps.getD 11 undef, a.tmps.getD 12 undef, a.tmps.getD 13 undef, a.tmps.getD 14 undef, a.tmps.getD 15 undef, a.tmps.getD 16 undef, a.tmps.getD 17 undef, a.tmps.getD 18 undef, a.tmps.getD 19 undef, .chan (some c0), .chan (some c0), a.tmps.getD 22 undef, a.tmps.getD 23 undef, a.tmps.getD 24 undef, a.tmps.getD 25 undef, a.tmps.getD 26 undef, a.tmps.getD 27 undef, a.tmps.getD 28 undef, a.tmps.getD 29 undef, a.tmps.getD 30 undef, a.tmps.getD 31 undef, a.tmps.getD 32 undef, a.tmps.getD 33 undef, a.tmps.getD 34 undef, a.tmps.getD 35 undef, a.tmps.getD 36 undef, a.tmps.getD 37 undef, a.tmps.getD 38 undef, a.tmps.getD 39 undef, a.tmps.getD 40 undef, a.tmps.getD 41 undef, a.tmps.getD 42 undef, a.tmps.getD 43 undef, a.tmps.getD 44 undef, a.tmps.getD 45 undef, a.tmps.getD 46 undef, a.tmps.getD 47 undef, a.tmps.getD 48 undef, a.tmps.getD 49 undef, a.tmps.getD 50 undef, a.tmps.getD 51 undef, a.tmps.getD 52 undef, a.tmps.getD 53 undef, a.tmps.getD 54 undef, a.tmps.getD 55 undef, a.tmps.getD 56 undef, a.tmps.getD 57 undef, a.tmps.getD 58 undef, a.tmps.getD 59 undef, a.tmps.getD 60 undef, a.tmps.getD 61 undef, a.tmps.getD 62 undef, a.tmps.getD 63 undef, a.tmps.getD 64 undef, a.tmps.getD 65 undef, a.tmps.getD 66 undef, a.tmps.getD 67 undef, a.tmps.getD 68 undef, a.tmps.getD 69 undef, a.tmps.getD 70 undef, a.tmps.getD 71 undef, a.tmps.getD 72 undef, a.tmps.getD 73 undef, a.tmps.getD 74 undef, a.tmps.getD 75 undef, a.tmps.getD 76 undef, a.tmps.getD 77 undef, a.tmps.getD 78 undef, a.tmps.getD 79 undef, a.tmps.getD 80 undef, a.tmps.getD 81 undef, a.tmps.getD 82 undef, a.tmps.getD 83 undef, a.tmps.getD 84 undef, a.tmps.getD 85 undef, a.tmps.getD 86 undef, a.tmps.getD 87 undef, a.tmps.getD 88 undef, a.tmps.getD 89 undef, a.tmps.getD 90 undef, a.tmps.getD 91 undef, a.tmps.getD 92 undef, a.tmps.getD 93 undef, a.tmps.getD 94 undef, a.tmps.getD 95 undef], defers := [] }) : WaitI w own A N t ls lb lcap c0 a wr :=
  ⟨k, fun i => a.tmps.getD i undef, ha, hrel⟩

theorem res4_0 (c : Nat) (z v z1 z2 z3 : Value) : commResult #[rcase c z, rcaseNil z1, rcaseNil z2, rcaseNil z3] .select ((0 : Nat) : Int) v true = .tuple #[goInt 0, .bool true, v, z1, z2, z3] := by
  simp [commResult, rcase, rcaseNil, List.zipIdx_cons]
theorem res4_1 (c : Nat) (z z1 z2 z3 : Value) : commResult #[rcaseNil z, rcase c z1, rcaseNil z2, rcaseNil z3] .select ((1 : Nat) : Int) z1 false = .tuple #[goInt 1, .bool false, z, z1, z2, z3] := by
  simp [commResult, rcase, rcaseNil, List.zipIdx_cons]
theorem res4_2 (c : Nat) (z z1 z2 z3 : Value) : commResult #[rcaseNil z, rcaseNil z1, rcase c z2, rcaseNil z3] .select ((2 : Nat) : Int) z2 false = .tuple #[goInt 2, .bool false, z, z1, z2, z3] := by
  simp [commResult, rcase, rcaseNil, List.zipIdx_cons]
theorem res4_3 (c : Nat) (z z1 z2 z3 : Value) : commResult #[rcaseNil z, rcaseNil z1, rcaseNil z2, rcase c z3] .select ((3 : Nat) : Int) z3 false = .tuple #[goInt 3, .bool false, z, z1, z2, z3] := by
  simp [commResult, rcase, rcaseNil, List.zipIdx_cons]
theorem noWay_rnil (w : World) (z : Value) : NoWay w (rcaseNil z) := noWay_nil none

/-- The net behind a message that was taken. -/
theorem popped_net {w wr : World} {own own' : Own} {A : Ga} {M : Nt} {l g : Nat} {vs : Array Value} {sn rn : Nat} {v : Value} {m : List Int} (hN : NetIs wr own' A M) (hm : Mv own.has w wr) (hg : Grows w.heap.size own own')
    (q2 : own' (A.c l) = some (.c l)) (q4 : wr.heap[A.c l]? = some (.chan 64 vs (M.lane l).shut sn rn false)) (hmsg : MsgAt wr g v m) (ho : own' g = some (.msg l rn)) (hne : g ≠ A.c l)
    (hL : LaneIs (wr.setChan (A.c l) 64 (vs.extract 1 vs.size) (M.lane l).shut sn (rn + 1) false) (own'.drop g) A l (M.lane l).pop (M.lane l).shut) :
    ∃ own'', NetIs (wr.setChan (A.c l) 64 (vs.extract 1 vs.size) (M.lane l).shut sn (rn + 1) false) own'' A (M.popped l) ∧ Mv own.has w (wr.setChan (A.c l) 64 (vs.extract 1 vs.size) (M.lane l).shut sn (rn + 1) false) ∧ Grows w.heap.size own own'' ∧
      ∃ g, MsgAt (wr.setChan (A.c l) 64 (vs.extract 1 vs.size) (M.lane l).shut sn (rn + 1) false) g v m ∧ own'' g = none ∧ (own g ≠ none ∨ w.heap.size ≤ g) := by
  have hoth : ∀ b, b ≠ A.c l → (wr.setChan (A.c l) 64 (vs.extract 1 vs.size) (M.lane l).shut sn (rn + 1) false).heap[b]? = wr.heap[b]? := fun b hb => by
    simp only [World.setChan]
    rw [Array.getElem?_setIfInBounds_ne (Ne.symm hb)]
  refine ⟨own'.drop g, ?_, hm.setChan ?_ _ _ _ _ _ _, hg.drop g, g, hmsg.of_block (hoth g hne), by simp [Own.drop], ?_⟩
  · obtain ⟨h0, cap, fv, lv, h1, h2, h3, h4, h5⟩ := hN
    have key : ∀ b t, own' b = some t → t ≠ .c l → t ≠ .msg l rn → (own'.drop g) b = some t ∧ (wr.setChan (A.c l) 64 (vs.extract 1 vs.size) (M.lane l).shut sn (rn + 1) false).heap[b]? = wr.heap[b]? := fun b t hb ht hu =>
      ⟨by rw [Own.drop_other _ (fun e => by subst e; rw [ho] at hb; cases hb; exact hu rfl)]; exact hb, hoth b (fun e => by subst e; rw [q2] at hb; cases hb; exact ht rfl)⟩
    have hsh : (M.lane l).pop.shut = (M.lane l).shut := rfl
    refine ⟨(h0.drop g).mono (by simp [World.setChan]), cap, fv, lv, ⟨(key _ _ h1.1 (by simp) (by simp)).1, (key _ _ h1.1 (by simp) (by simp)).2.trans h1.2⟩, h2.keep (fun ho => key _ _ ho (by simp) (by simp)), h3.keep (fun b hb => key _ _ hb (by simp) (by simp)),
      h4.keep (fun b hb => ?_), fun j hj => ?_⟩
    · rcases hb with hb | hb <;> exact ⟨(key _ _ hb (by simp) (by simp)).1.trans hb.symm, (key _ _ hb (by simp) (by simp)).2⟩
    · by_cases hjl : j = l
      · subst hjl
        simp only [Nt.popped, setL_same, hsh]
        exact hL
      · simp only [Nt.popped, setL_other _ _ hjl]
        refine (h5 j hj).keep fun b t hb ht => key b t hb ?_ ?_
        all_goals (rcases ht with rfl | rfl | ⟨k, rfl⟩ <;> simp [hjl])
  · by_cases hc : A.c l < w.heap.size
    · left
      intro hn
      have := hg _ hc hn
      rw [q2] at this; cases this
    · right; omega
  · by_cases hc : g < w.heap.size
    · left
      intro hn
      have := hg _ hc hn
      rw [ho] at this; cases this
    · right; omega

theorem Try.info117 : (Try.prog.info? 117).map (fun i => (i.zero, i.size, i.bytes)) = some (some (.agg #[]), 0, 0) := by kernel_rfl

set_option maxRecDepth 100000 in
set_option maxHeartbeats 3200000 in
theorem wait_any (w : World) (own : Own) (A : Ga) (N : Nt) (t lb lcap : Nat) (ls : List Nat) (h : NetIs w own A N) (hf : Fine N) (hls : ∀ l ∈ ls, l < N.nl) (hlen : ls.length ≤ 64) (ht : t ≤ 65536) (hin : ListIn w own lb ls) :
    Calls Try.prog 37 #[.pointer (some ⟨A.net, 0, none⟩), .slice (some ⟨lb, 0, none⟩) ls.length lcap, .int .i64 t] w (Waited w own A (Nt.waitGo ls t N)) := by
  obtain ⟨i0, hi0, hz0, hz1, hz2⟩ := info_parts Try.info117
  have hmk : ∀ W, (Instr.makeChan 116 (.int .i64 0)).run Try.prog W = .ok (.chan (some W.heap.size)) (W.alloc (.chan 0 #[] false 0 0 false)) := fun W => run_makeChan (w := W) (P := Try.prog) Try.underlying116 hi0 .i64 0 (by decide) (by rw [hz2]; decide)
  have hcl := fun ats ty => run_close_open (P := Try.prog) (w := w.alloc (.chan 0 #[] false 0 0 false)) ats ty (heap_alloc_new w _)
  have H := Lib.hid h
  have HF := Lib.hid hf
  have HLS := Lib.hid hls
  have HIN := Lib.hid hin
  clear h hf hls hin hi0 hz0 hz1 hz2
  refine calls_of_wpN Try.func37 rfl ?_
  simp only [Try.ntmps37, List.size_toArray, List.length_cons, List.length_nil, Nat.reduceAdd, Nat.reduceSub, Array.replicate_succ,
     Array.replicate_zero, List.push_toArray, List.append_toArray, List.nil_append, List.cons_append]
  refine wpN_seq_k (fun K hK => ?_)
  go_wp2
  refine wpN_seq_k (fun K hK => ?_)
  go_wp2
  refine wpN_seq_k (fun K hK => ?_)
  go_wp2
  refine wpN_seq_k (fun K hK => ?_)
  go_wp2
  clear hmk hcl
  refine wpN_block ?_
  refine wpN_loop (WaitI w own A N t ls lb lcap w.heap.size) (fun a _ => t - (intOf (a.tmps.getD 10 undef)).toNat) ?_ ?_
  · have hm : Mv (fun _ => False) w ((w.alloc (.chan 0 #[] false 0 0 false)).setChan w.heap.size 0 #[] true 0 0 false) := ((Mv.refl _ _).alloc _).setChan (.inr (Nat.le_refl _)) _ _ _ _ _ _
    refine ⟨0, fun _ => undef, rfl, Nat.zero_le _, own, H.out.still hm, hm.mono (fun _ _ h => h.elim), Grows.refl _ _, HIN.out.keep (hm.mono (fun _ _ h => h.elim)) (Grows.refl _ _), H.out.1.none (Nat.le_refl _), ?_, rfl⟩
    exact heap_setChan _ _ _ _ _ _ _ _ (by simp)
  · rintro a wr ⟨k, u, rfl, hrel⟩
    obtain ⟨hk, own', hN, hm, hg, hin', hc0, hch, hgo⟩ := hrel
    obtain ⟨M, hM⟩ : ∃ M, M = N.ticks k := ⟨_, rfl⟩
    rw [← hM] at hN hgo
    have hMnl : M.nl = N.nl := by rw [hM]; exact ticks_nl N k
    have hlsM : ∀ l ∈ ls, l < M.nl := by rw [hMnl]; exact HLS.out
    have HN := Lib.hid hN
    obtain ⟨h0, cap, fv, lv, h1, h2, h3, h4, h5⟩ := hN
    have g0 : wr.cell? ⟨A.net, 0, none⟩ = some (.slice (some ⟨A.arr, 0, none⟩) M.nl cap) := cell_of_heap h1.2 0 rfl
    have HM := Lib.hid hM
    have Hm := Lib.hid hm
    have Hg := Lib.hid hg
    have HI := Lib.hid hin'
    have HC0 := Lib.hid hc0
    have HCH := Lib.hid hch
    have HGO := Lib.hid hgo
    have HLM := Lib.hid hlsM
    have H2 := Lib.hid h2
    have H5 := Lib.hid h5
    clear hM hm hg hin' hc0 hch hgo hlsM h0 h1 h2 h3 h4 h5
    refine wpN_seq_n (fun K hK => ?_)
    refine wpN_block ?_
    refine wpN_seq_k (fun K hK => ?_)
    go_wp2
    refine wpN_seq_k (fun K hK => ?_)
    go_wp2
    refine wpN_seq_k (fun K hK => ?_)
    go_wp2
    refine wpN_seq_k (fun K hK => ?_)
    go_wp2_with fail
    go_loop [15, 16, 26] (fun f al j => ∃ n : Nat, n ≤ ls.length ∧ j = .int .i64 n ∧ f = .int .i64 (fstI M (ls.take n)) ∧ al = .bool (allB M (ls.take n))) (fun _ _ j => ls.length - (intOf j).toNat)
    case atStart => exact ⟨0, Nat.zero_le _, rfl, rfl, rfl⟩
    case round =>
      obtain ⟨n, hn, rfl, rfl, rfl⟩ := hrel
      by_cases hlt : n < ls.length
      · have hl : ls[n] < M.nl := HLM.out _ (List.getElem_mem hlt)
        have cl : wr.cell? ⟨lb, n, none⟩ = some (.int .i64 (ls[n] : Nat)) := by
          have := HI.out.2.2 n hlt
          rw [List.getD_eq_getElem?_getD, List.getElem?_eq_getElem hlt] at this
          exact this
        obtain ⟨l, hld⟩ : ∃ l, l = ls[n] := ⟨_, rfl⟩
        rw [← hld] at hl cl
        have HLD := Lib.hid hld
        clear hld
        have ca := H2.out.cell hl
        have hL := H5.out l hl
        obtain ⟨q1, q2, q3, vs, sn, rn, q4, q5⟩ := H5.out l hl
        have cq : wr.cell? ⟨A.q l, 0, none⟩ = some (.chan (some (A.c l))) := cell_of_heap q3 0 rfl
        have hlen := fun ty => run_len_chan (P := Try.prog) 84 ty Try.underlying84 q4
        have hln : (l : Int) < M.nl := by omega
        have hnn : (n : Int) < ls.length := by omega
        have hsn : ls.take (n + 1) = ls.take n ++ [l] := by rw [HLD.out]; exact List.take_succ_eq_append_getElem hlt
        have hvs := q5.1
        clear q1 q2 q3 q4 q5
        have HL := Lib.hid hL
        clear hL
        have hra := fstI_range M (ls.take n) M.nl (fun x hx => HLM.out x (List.mem_of_mem_take hx))
        have e1 : ∀ F, fstI M (ls.take n) = F → (F < 0 → hasMsg (M.lane l) = true → fstI M (ls.take (n + 1)) = l) ∧ (F < 0 → hasMsg (M.lane l) = false → fstI M (ls.take (n + 1)) = F) ∧ (¬ F < 0 → fstI M (ls.take (n + 1)) = F) := by
          rintro F rfl
          rw [hsn]
          exact ⟨fun a b => fstI_snoc_new M _ l a b, fun a b => fstI_snoc_no M _ l a b, fun a => fstI_snoc_old M _ l (by omega)⟩
        have e2 : ∀ B, allB M (ls.take n) = B → allB M (ls.take (n + 1)) = (B && overB (M.lane l)) := by
          rintro B rfl
          rw [hsn]
          exact allB_snoc M _ l
        have hhas : hasMsg (M.lane l) = decide (0 < vs.size) := by
          rw [hvs]; unfold hasMsg; cases (M.lane l).buf <;> simp
        obtain ⟨F, hF⟩ : ∃ F, fstI M (ls.take n) = F := ⟨_, rfl⟩
        obtain ⟨B, hB⟩ : ∃ B, allB M (ls.take n) = B := ⟨_, rfl⟩
        rw [hF] at hra
        rw [hF, hB]
        have E1 := Lib.hid (e1 F hF)
        have E2 := Lib.hid (e2 B hB)
        have HH := Lib.hid hhas
        clear e1 e2 hF hB hhas hsn hvs
        by_cases hF0 : F < 0
        · have d1 : decide (F < 0) = true := by simpa using hF0
          by_cases hv : 0 < vs.size
          · have d2 : decide ((0 : Int) < vs.size) = true := by simp; omega
            have X1 := Lib.hid (E1.out.1 hF0 (by rw [HH.out]; simpa using hv))
            cases B
            · have X2 := Lib.hid E2.out
              go_wp2
              go_round
              case rel => exact ⟨n + 1, by omega, by go_num, by rw [X1.out], by rw [X2.out]; rfl⟩
              case measure => simp [intOf]; omega
            · have X2 := Lib.hid E2.out
              go_wp2_with (go_at_call 47; refine (overL _ own' A l (M.lane l) HL.out).mono ?_; rintro e w' ⟨rfl, rfl⟩)
              go_round
              case rel => exact ⟨n + 1, by omega, by go_num, by rw [X1.out], by rw [X2.out]; rfl⟩
              case measure => simp [intOf]; omega
          · have d2 : decide ((0 : Int) < vs.size) = false := by rw [decide_eq_false_iff_not]; omega
            have X1 := Lib.hid (E1.out.2.1 hF0 (by rw [HH.out]; simpa using hv))
            cases B
            · have X2 := Lib.hid E2.out
              go_wp2
              go_round
              case rel => exact ⟨n + 1, by omega, by go_num, by rw [X1.out], by rw [X2.out]; rfl⟩
              case measure => simp [intOf]; omega
            · have X2 := Lib.hid E2.out
              go_wp2_with (go_at_call 47; refine (overL _ own' A l (M.lane l) HL.out).mono ?_; rintro e w' ⟨rfl, rfl⟩)
              go_round
              case rel => exact ⟨n + 1, by omega, by go_num, by rw [X1.out], by rw [X2.out]; rfl⟩
              case measure => simp [intOf]; omega
        · have d1 : decide (F < 0) = false := by simpa using hF0
          have X1 := Lib.hid (E1.out.2.2 hF0)
          cases B
          · have X2 := Lib.hid E2.out
            go_wp2
            go_round
            case rel => exact ⟨n + 1, by omega, by go_num, by rw [X1.out], by rw [X2.out]; rfl⟩
            case measure => simp [intOf]; omega
          · have X2 := Lib.hid E2.out
            go_wp2_with (go_at_call 47; refine (overL _ own' A l (M.lane l) HL.out).mono ?_; rintro e w' ⟨rfl, rfl⟩)
            go_round
            case rel => exact ⟨n + 1, by omega, by go_num, by rw [X1.out], by rw [X2.out]; rfl⟩
            case measure => simp [intOf]; omega
      · have hge : (ls.length : Int) ≤ n := by omega
        have htk : ls.take n = ls := List.take_of_length_le (by omega)
        rw [htk]
        clear htk
        go_wp2
        cases hfst : fstO M ls with
        | some l =>
          have hl := HLM.out l (fstO_mem hfst)
          have hhas := fstO_has hfst
          rw [fstI_some hfst]
          have hr := waitGo_some hfst (t - k)
          have HRES := Lib.hid (HGO.out.trans hr)
          clear hr
          have ca := H2.out.cell hl
          obtain ⟨q1, q2, q3, vs, sn, rn, q4, q5⟩ := H5.out l hl
          have cq : wr.cell? ⟨A.q l, 0, none⟩ = some (.chan (some (A.c l))) := cell_of_heap q3 0 rfl
          have hln : (l : Int) < M.nl := by omega
          have hl0 : (0 : Int) ≤ l := by omega
          have d0 : decide ((l : Int) ≥ 0) = true := by simp
          have Q1 := Lib.hid q1
          have Q2 := Lib.hid q2
          have Q3 := Lib.hid q3
          have Q4 := Lib.hid q4
          have Q5 := Lib.hid q5
          have HH := Lib.hid hhas
          clear q1 q2 q3 q4 q5 hfst hhas
          refine wpN_seq_k (fun K hK => ?_)
          go_wp2
          refine wpN_seq_k (fun K hK => ?_)
          go_wp2
          refine wpN_seq ?_
          obtain ⟨m, ms, hbuf⟩ : ∃ m ms, (M.lane l).buf = m :: ms := by
            have := HH.out
            unfold hasMsg at this
            cases hb : (M.lane l).buf with
            | nil => rw [hb] at this; simp at this
            | cons m ms => exact ⟨m, ms, rfl⟩
          obtain ⟨g, v, hv, hmsg, hog, hgc, hpop⟩ := LaneIs.pop Q1.out Q2.out Q3.out Q4.out Q5.out hbuf
          have hpos : 0 < vs.size := by rw [Q5.out.1, hbuf]; simp
          have HV := Lib.hid hv
          have HP := Lib.hid (popped_net HN.out Hm.out Hg.out Q2.out Q4.out hmsg hog hgc hpop)
          have HB := Lib.hid hbuf
          clear hv hmsg hog hgc hpop hbuf
          refine wpN_select_recv_buf (k := 0) (blocking := true) (cases := #[rcase (A.c l) (.slice none 0 0), rcaseNil (.agg #[]), rcaseNil (.agg #[]), rcaseNil (.agg #[])]) rfl (by simp [go_sem, execOp, rcase, rcaseNil, Act.eval]) rfl ?_ Q4.out hpos ?_
          · intro q c' hq hc'
            rcases q with _ | _ | _ | _ | q
            · exact absurd rfl hq
            · simp at hc'; subst hc'; exact noWay_rnil _ _
            · simp at hc'; subst hc'; exact noWay_rnil _ _
            · simp at hc'; subst hc'; exact noWay_rnil _ _
            · simp at hc'
          rw [res4_0, HV.out]
          go_wp2
          refine wpN_of_wp ?_
          go_wp2
          go_ret3
          obtain ⟨own'', p1, p2, p3, g', p4⟩ := HP.out
          rw [HRES.out, HB.out]
          exact ⟨v, rfl, own'', p1, p2, p3, g', p4⟩
        | none =>
          rw [fstI_none hfst]
          have hm1 : decide ((-1 : Int) ≥ 0) = false := by decide
          cases hall : allB M ls with
          | true =>
            have HRES := Lib.hid (HGO.out.trans (waitGo_over hfst hall (t - k)))
            clear hfst hall
            refine wpN_seq_k (fun K hK => ?_)
            go_wp2
            refine wpN_seq_k (fun K hK => ?_)
            go_wp2
            refine wpN_seq ?_
            refine wpN_select_recv_shut (k := 1) (c := w.heap.size) (cap := 0) (s := 0) (r := 0) (tm := false) (blocking := true) (cases := #[rcaseNil (.slice none 0 0), rcase w.heap.size (.agg #[]), rcaseNil (.agg #[]), rcaseNil (.agg #[])]) rfl (by simp [go_sem, execOp, rcase, rcaseNil, Act.eval]) rfl ?_ HCH.out ?_
            · intro q c' hq hc'
              rcases q with _ | _ | _ | _ | q
              · simp at hc'; subst hc'; exact noWay_rnil _ _
              · exact absurd rfl hq
              · simp at hc'; subst hc'; exact noWay_rnil _ _
              · simp at hc'; subst hc'; exact noWay_rnil _ _
              · simp at hc'
            rw [res4_1]
            go_wp2
            refine wpN_of_wp ?_
            go_wp2
            go_ret3
            rw [HRES.out]
            exact ⟨_, rfl, own', HN.out, Hm.out, Hg.out, rfl⟩
          | false =>
            by_cases hkt : k = t
            · have hkt' : ((k : Int) == (t : Int)) = true := by simp [hkt]
              have HRES : Hid (Nt.waitGo ls t N = ⟨0, none, 190, M⟩) := Lib.hid (HGO.out.trans (by rw [hkt, Nat.sub_self]; exact waitGo_zero hfst hall))
              clear hfst hall hkt
              refine wpN_seq_k (fun K hK => ?_)
              go_wp2
              refine wpN_seq_k (fun K hK => ?_)
              go_wp2
              refine wpN_seq ?_
              refine wpN_select_recv_shut (k := 2) (c := w.heap.size) (cap := 0) (s := 0) (r := 0) (tm := false) (blocking := true) (cases := #[rcaseNil (.slice none 0 0), rcaseNil (.agg #[]), rcase w.heap.size (.agg #[]), rcaseNil (.agg #[])]) rfl (by simp [go_sem, execOp, rcase, rcaseNil, Act.eval]) rfl ?_ HCH.out ?_
              · intro q c' hq hc'
                rcases q with _ | _ | _ | _ | q
                · simp at hc'; subst hc'; exact noWay_rnil _ _
                · simp at hc'; subst hc'; exact noWay_rnil _ _
                · exact absurd rfl hq
                · simp at hc'; subst hc'; exact noWay_rnil _ _
                · simp at hc'
              rw [res4_2]
              go_wp2
              refine wpN_of_wp ?_
              go_wp2
              go_ret3
              rw [HRES.out]
              exact ⟨_, rfl, own', HN.out, Hm.out, Hg.out, rfl⟩
            · have hkt' : ((k : Int) == (t : Int)) = false := by simp; omega
              have hkk : k < t := by omega
              have hstep : Nt.waitGo ls (t - k) M = Nt.waitGo ls (t - (k + 1)) (N.ticks (k + 1)) := by
                have e : t - k = (t - (k + 1)) + 1 := by omega
                rw [e, waitGo_succ hfst hall, HM.out]; rfl
              have HRES := Lib.hid (HGO.out.trans hstep)
              clear hfst hall hkt hstep
              refine wpN_seq_k (fun K hK => ?_)
              go_wp2
              refine wpN_seq_k (fun K hK => ?_)
              go_wp2
              refine wpN_seq ?_
              refine wpN_select_recv_shut (k := 3) (c := w.heap.size) (cap := 0) (s := 0) (r := 0) (tm := false) (blocking := true) (cases := #[rcaseNil (.slice none 0 0), rcaseNil (.agg #[]), rcaseNil (.agg #[]), rcase w.heap.size (.agg #[])]) rfl (by simp [go_sem, execOp, rcase, rcaseNil, Act.eval]) rfl ?_ HCH.out ?_
              · intro q c' hq hc'
                rcases q with _ | _ | _ | _ | q
                · simp at hc'; subst hc'; exact noWay_rnil _ _
                · simp at hc'; subst hc'; exact noWay_rnil _ _
                · simp at hc'; subst hc'; exact noWay_rnil _ _
                · exact absurd rfl hq
                · simp at hc'
              rw [res4_3]
              go_wp2
              refine wpN_of_wp ?_
              go_wp2_with (go_at_call 48; refine (ticks_tick_any _ own' A N k (by rw [← HM.out]; exact HN.out) HF.out (by omega)).mono ?_; rintro e w' ⟨rfl, hL⟩)
              obtain ⟨own2, p1, p2, p3⟩ := hL
              have hrel : WaitRel w own A N t ls lb w.heap.size (k + 1) w' := by
                have q := Hm.out.trans' p2 (fun b hb hh ho => hh (Hg.out b hb ho))
                have hcl := lt_of_heap HCH.out
                exact ⟨by omega, own2, p1, q, Hg.out.trans p3 Hm.out.size, HI.out.keep p2 p3, p3 _ hcl HC0.out,
                  (p2.block _ hcl (by unfold Own.has; rw [HC0.out]; simp)).trans HCH.out, HRES.out⟩
              have HREL := Lib.hid hrel
              clear hrel p1 p2 p3
              refine wpN_of_wp ?_
              go_wp2
              refine ⟨WaitI_of HREL.out rfl, ?_⟩
              simp [intOf]
              omega
end Go.Proofs.Ytadalodjnbnjkaa

/- Wait; may; what a new net is. -/
namespace Go.Proofs.Ytadalodjnbnjkaa
open Go.RowKit Go.Conc

/-- What Wait leaves. -/
def WaitedV (w : World) (own : Own) (A : Ga) (R : Wr) (e : Ending) (w' : World) : Prop :=
  ∃ v, e = .returned (.tuple #[v, .int .i64 R.err]) ∧ ∃ own', NetIs w' own' A R.net ∧ Mv own.has w w' ∧ Grows w.heap.size own own' ∧
    match R.msg with
    | none => v = .slice none 0 0
    | some m => ∃ g, MsgAt w' g v m ∧ own' g = none ∧ (own g ≠ none ∨ w.heap.size ≤ g)

set_option maxHeartbeats 800000 in
theorem Wait_ok (w : World) (own : Own) (A : Ga) (N : Nt) (i t : Nat) (h : NetIs w own A N) (hf : Fine N) (hi : i < N.nl) (ht : t ≤ 65536) :
    Calls Try.prog 19 #[.pointer (some ⟨A.net, 0, none⟩), .int .i64 i, .int .i64 t] w (WaitedV w own A (Nt.waitGo [i] t N)) := by
  have H := Lib.hid h
  have HF := Lib.hid hf
  obtain ⟨h0, capl, fv, lv, h1, h2, h3, h4, h5⟩ := h
  have g0 : w.cell? ⟨A.net, 0, none⟩ = some (.slice (some ⟨A.arr, 0, none⟩) N.nl capl) := cell_of_heap h1.2 0 rfl
  have d1 : decide ((t : Int) < 0) = false := by simp
  have d2 : decide ((t : Int) > 65536) = false := by simp; omega
  have hii : (i : Int) < N.nl := by omega
  clear h0 h1 h2 h3 h4 h5 hf
  go_enter Try.func19, Try.ntmps19
  go_wp2_with (first
    | (go_at_call 33; refine (has_yes _ A.net N.nl capl _ _ g0 (by omega) (by omega)).mono ?_; rintro e w' ⟨rfl, rfl⟩))
  have hst : Mv (fun _ => False) w (w.alloc (.cells #[.int .i64 i] 3)) := (Mv.refl _ _).alloc _
  have hin : ListIn (w.alloc (.cells #[.int .i64 i] 3)) own w.heap.size [i] := by
    refine ⟨H.out.1.none (Nat.le_refl _), by simp, fun j hj => ?_⟩
    obtain rfl : j = 0 := by simpa using hj
    exact cell_of_heap (heap_alloc_new w _) 0 rfl
  refine (wait_any _ own A N t w.heap.size 1 [i] (H.out.still hst) HF.out (by intro l hl; simp at hl; omega) (by simp) ht hin).mono ?_
  rintro e w' ⟨v, rfl, own', r1, r2, r3, r4⟩
  have HST := Lib.hid hst
  have R4 := Lib.hid r4
  clear hst hin r4
  go_wp2
  go_ret2
  refine ⟨v, rfl, own', r1, (HST.out.mono (fun _ _ h => h.elim)).trans' r2 (fun _ _ h => h), fun b hb ho => r3 b (by simp; omega) ho, ?_⟩
  have r4 := R4.out
  cases hm : (Nt.waitGo [i] t N).msg with
  | none => rw [hm] at r4; exact r4
  | some m =>
    rw [hm] at r4
    obtain ⟨g, q1, q2, q3⟩ := r4
    refine ⟨g, q1, q2, q3.imp id fun h => ?_⟩
    simp at h; omega

theorem Wait_noLane (w : World) (own : Own) (A : Ga) (N : Nt) (x : Int) (v : Value) (h : NetIs w own A N) (hi : x < 0 ∨ N.nl ≤ x) :
    Calls Try.prog 19 #[.pointer (some ⟨A.net, 0, none⟩), .int .i64 x, v] w fun e w' => e = .returned (.tuple #[.slice none 0 0, .int .i64 192]) ∧ w = w' := by
  obtain ⟨h0, capl, fv, lv, h1, h2, h3, h4, h5⟩ := h
  have g0 : w.cell? ⟨A.net, 0, none⟩ = some (.slice (some ⟨A.arr, 0, none⟩) N.nl capl) := cell_of_heap h1.2 0 rfl
  have HI := Lib.hid hi
  clear h0 h1 h2 h3 h4 h5 hi
  go_enter Try.func19, Try.ntmps19
  go_wp2_with (go_at_call 33; refine (has_no _ A.net N.nl capl _ _ g0 HI.out).mono ?_; rintro e w' ⟨rfl, rfl⟩)
  go_ret2
  exact ⟨rfl, rfl⟩

theorem Wait_badTicks (w : World) (own : Own) (A : Ga) (N : Nt) (i : Nat) (t : Int) (h : NetIs w own A N) (hi : i < N.nl) (ht : t < 0 ∨ 65536 < t) :
    Calls Try.prog 19 #[.pointer (some ⟨A.net, 0, none⟩), .int .i64 i, .int .i64 t] w fun e w' => e = .returned (.tuple #[.slice none 0 0, .int .i64 1]) ∧ w = w' := by
  obtain ⟨h0, capl, fv, lv, h1, h2, h3, h4, h5⟩ := h
  have g0 : w.cell? ⟨A.net, 0, none⟩ = some (.slice (some ⟨A.arr, 0, none⟩) N.nl capl) := cell_of_heap h1.2 0 rfl
  have hii : (i : Int) < N.nl := by omega
  clear h0 h1 h2 h3 h4 h5
  by_cases hn : t < 0
  · have d1 : decide (t < 0) = true := by simpa using hn
    clear ht
    go_enter Try.func19, Try.ntmps19
    go_wp2_with (go_at_call 33; refine (has_yes _ A.net N.nl capl _ _ g0 (by omega) (by omega)).mono ?_; rintro e w' ⟨rfl, rfl⟩)
    go_ret2
    exact ⟨rfl, rfl⟩
  · have d1 : decide (t < 0) = false := by simpa using hn
    have d2 : decide (t > 65536) = true := by simp; omega
    have d3 : 65536 < t := by omega
    clear ht
    go_enter Try.func19, Try.ntmps19
    go_wp2_with (go_at_call 33; refine (has_yes _ A.net N.nl capl _ _ g0 (by omega) (by omega)).mono ?_; rintro e w' ⟨rfl, rfl⟩)
    go_ret2
    exact ⟨rfl, rfl⟩

def mayPost (b : Bool) (w : World) (e : Ending) (w' : World) : Prop := e = .returned (.bool b) ∧ Below w.heap.size w w'

theorem may_plain (k n : Int) (w : World) (h : k = 0 ∨ k = 1) : Calls Try.prog 30 #[.agg #[.int .i64 k, .int .i64 n]] w (mayPost true w) := by
  rcases h with rfl | rfl
  all_goals
    go_enter Try.func30, Try.ntmps30
    go_wp2
    go_ret
    exact ⟨rfl, (Below.refl _ _).alloc (Nat.le_refl _) _⟩

theorem may_late (k n : Int) (w : World) (h : k = 2 ∨ k = 3) (b : Bool) (hb : decide (0 ≤ n ∧ n ≤ 1000) = b) : Calls Try.prog 30 #[.agg #[.int .i64 k, .int .i64 n]] w (mayPost b w) := by
  by_cases h0 : 0 ≤ n
  · have d0 : decide (n ≥ 0) = true := by simpa using h0
    by_cases h1 : n ≤ 1000
    · have d1 : decide (n ≤ 1000) = true := by simpa using h1
      obtain rfl : b = true := by rw [← hb]; simp [h0, h1]
      clear hb
      rcases h with rfl | rfl
      all_goals
        go_enter Try.func30, Try.ntmps30
        go_wp2
        go_ret
        exact ⟨rfl, (Below.refl _ _).alloc (Nat.le_refl _) _⟩
    · have d1 : decide (n ≤ 1000) = false := by simpa using h1
      obtain rfl : b = false := by rw [← hb]; simp; omega
      clear hb
      rcases h with rfl | rfl
      all_goals
        go_enter Try.func30, Try.ntmps30
        go_wp2
        go_ret
        exact ⟨rfl, (Below.refl _ _).alloc (Nat.le_refl _) _⟩
  · have d0 : decide (n ≥ 0) = false := by simp; omega
    obtain rfl : b = false := by rw [← hb]; simp; omega
    clear hb
    rcases h with rfl | rfl
    all_goals
      go_enter Try.func30, Try.ntmps30
      go_wp2
      go_ret
      exact ⟨rfl, (Below.refl _ _).alloc (Nat.le_refl _) _⟩

theorem may_cut (k n : Int) (w : World) (h : k = 4 ∨ k = 5) (b : Bool) (hb : decide (0 ≤ n ∧ n ≤ 1048576) = b) : Calls Try.prog 30 #[.agg #[.int .i64 k, .int .i64 n]] w (mayPost b w) := by
  by_cases h0 : 0 ≤ n
  · have d0 : decide (n ≥ 0) = true := by simpa using h0
    by_cases h1 : n ≤ 1048576
    · have d1 : decide (n ≤ 1048576) = true := by simpa using h1
      obtain rfl : b = true := by rw [← hb]; simp [h0, h1]
      clear hb
      rcases h with rfl | rfl
      all_goals
        go_enter Try.func30, Try.ntmps30
        go_wp2
        go_ret
        exact ⟨rfl, (Below.refl _ _).alloc (Nat.le_refl _) _⟩
    · have d1 : decide (n ≤ 1048576) = false := by simpa using h1
      obtain rfl : b = false := by rw [← hb]; simp; omega
      clear hb
      rcases h with rfl | rfl
      all_goals
        go_enter Try.func30, Try.ntmps30
        go_wp2
        go_ret
        exact ⟨rfl, (Below.refl _ _).alloc (Nat.le_refl _) _⟩
  · have d0 : decide (n ≥ 0) = false := by simp; omega
    obtain rfl : b = false := by rw [← hb]; simp; omega
    clear hb
    rcases h with rfl | rfl
    all_goals
      go_enter Try.func30, Try.ntmps30
      go_wp2
      go_ret
      exact ⟨rfl, (Below.refl _ _).alloc (Nat.le_refl _) _⟩

theorem may_other (k n : Int) (w : World) (h : k < 0 ∨ 5 < k) : Calls Try.prog 30 #[.agg #[.int .i64 k, .int .i64 n]] w (mayPost false w) := by
  have e0 : (k == 0) = false := by simp; omega
  have e1 : (k == 1) = false := by simp; omega
  have e2 : (k == 2) = false := by simp; omega
  have e3 : (k == 3) = false := by simp; omega
  have e4 : (k == 4) = false := by simp; omega
  have e5 : (k == 5) = false := by simp; omega
  clear h
  go_enter Try.func30, Try.ntmps30
  go_wp2
  go_ret
  exact ⟨rfl, (Below.refl _ _).alloc (Nat.le_refl _) _⟩

instance (f : Int × Int) : Decidable (mayF f) := by unfold mayF; infer_instance
def mayB (f : Int × Int) : Bool := decide (mayF f)

theorem may_any (k n : Int) (w : World) : Calls Try.prog 30 #[.agg #[.int .i64 k, .int .i64 n]] w (mayPost (mayB (k, n)) w) := by
  by_cases h01 : k = 0 ∨ k = 1
  · have : mayB (k, n) = true := decide_eq_true (by unfold mayF; simp only; omega)
    rw [this]; exact may_plain k n w h01
  by_cases h23 : k = 2 ∨ k = 3
  · refine may_late k n w h23 _ ?_
    unfold mayB mayF
    congr 1
    simp only [eq_iff_iff]
    omega
  by_cases h45 : k = 4 ∨ k = 5
  · refine may_cut k n w h45 _ ?_
    unfold mayB mayF
    congr 1
    simp only [eq_iff_iff]
    omega
  · have : mayB (k, n) = false := decide_eq_false (by unfold mayF; simp only; omega)
    rw [this]; exact may_other k n w (by omega)
end Go.Proofs.Ytadalodjnbnjkaa

/- New: a net of empty lanes. -/
namespace Go.Proofs.Ytadalodjnbnjkaa
open Go.RowKit Go.Conc

/-- The caller's fates. -/
def FateIn (w : World) (fb : Nat) (F : List (Int × Int)) : Prop :=
  ∀ j, j < F.length → w.cell? ⟨fb, j * 2, none⟩ = some (.int .i64 (F.getD j (0, 0)).1) ∧ w.cell? ⟨fb, j * 2 + 1, none⟩ = some (.int .i64 (F.getD j (0, 0)).2)

def lq0 : Lq := ⟨[], false, 0⟩
def net0 (nl : Nat) (F : List (Int × Int)) : Nt := ⟨nl, fun _ => lq0, F, 0, 0, []⟩

theorem Try.info63 : (Try.prog.info? 63).map (fun i => (i.zero, i.size, i.bytes)) = some (some (.agg #[.int .i64 0, .int .i64 0]), 2, 16) := by kernel_rfl
theorem Try.info83 : (Try.prog.info? 83).map (fun i => (i.zero, i.size, i.bytes)) = some (some (.pointer none), 1, 8) := by kernel_rfl
theorem Try.info47 : (Try.prog.info? 47).map (fun i => (i.zero, i.size, i.bytes)) = some (some (.slice none 0 0), 1, 24) := by kernel_rfl

def NewRel (w : World) (nb : Nat) (F : List (Int × Int)) (fv : Value) (k : Nat) (lv : Value) (wr : World) : Prop :=
  ∃ (own : Own) (A : Ga), A.net = nb ∧ Lies wr own ∧ (∀ b, b < w.heap.size → own b = none) ∧ Mv (fun _ => False) w wr ∧ own nb = some .net ∧
    wr.heap[nb]? = some (.cells #[lv, fv, .int .i64 0, .int .i64 0, .slice none 0 0] 82 (0, 0)) ∧
    wr.ownsRow w.heap.size 83 1 lv k ((List.range k).map fun i => .pointer (some ⟨A.q i, 0, none⟩)) ∧ (∀ b, lv.ownBlock = some b → own b = none) ∧ FatesIs wr own fv F ∧
    ∀ i, i < k → LaneIs wr own A i lq0 false

/-- What New leaves where it gives a net. -/
def Newed (w : World) (nl : Nat) (F : List (Int × Int)) (e : Ending) (w' : World) : Prop :=
  ∃ own A, e = .returned (.tuple #[.pointer (some ⟨A.net, 0, none⟩), .int .i64 0]) ∧ NetIs w' own A (net0 nl F) ∧ Below w.heap.size w w' ∧ ∀ b, b < w.heap.size → own b = none

theorem new_end {w wr : World} {nb nl : Nat} {F : List (Int × Int)} {fv lv : Value} (h : NewRel w nb F fv nl lv wr) (hn : 0 < nl) : Newed w nl F (.returned (.tuple #[.pointer (some ⟨nb, 0, none⟩), .int .i64 0])) wr := by
  obtain ⟨own, A, rfl, h1, h2, h3, h4, h5, h6, h7, h8, h9⟩ := h
  obtain ⟨g, cap, cur, rfl, hb, hg, hc1, hc2, hc3, hc4⟩ := h6.2.resolve_left (fun h => by omega)
  have hgn := h7 g rfl
  have hne : ∀ b t, own b = some t → b ≠ g := fun b t hb e => by rw [e, hgn] at hb; cases hb
  have key : ∀ b t, own b = some t → own.put g .arr b = some t ∧ wr.heap[b]? = wr.heap[b]? := fun b t hb => ⟨by rw [Own.put_other _ _ (hne b t hb)]; exact hb, rfl⟩
  refine ⟨own.put g .arr, { A with arr := g }, rfl, ⟨h1.put (lt_of_heap hg) _, cap, fv, .slice none 0 0, ⟨(key _ _ h4).1, h5⟩, ⟨Own.put_same _ _ _, cur, hg, hc1, fun i hi => ?_⟩, h8.keep (fun b hb => key b _ hb), ⟨[], rfl, World.ownsRow_nil _ _ _ _, fun b hb => by simp [Value.ownBlock] at hb, fun x hx => by simp at hx⟩, fun i hi => ?_⟩, h3.below, fun b hb' => ?_⟩
  · have hi : i < nl := hi
    have : (cur.toList.take (nl * 1))[i]? = some (.pointer (some ⟨A.q i, 0, none⟩)) := by
      rw [hc4]
      simp only [List.getElem?_map, List.getElem?_range hi]
      rfl
    rw [List.getElem?_take, if_pos (by omega)] at this
    simpa using this
  · exact (h9 i hi).keep (A := A) fun b t hb _ => key b t hb
  · rw [Own.put_other _ _ (by omega)]; exact h2 b hb'

/-- One lane more. -/
theorem new_step {w wr wr' : World} {nb k q c gg : Nat} {F : List (Int × Int)} {fv lv lv' : Value} {own : Own} {A : Ga} (hA : A.net = nb) (h1 : Lies wr own) (h2 : ∀ b, b < w.heap.size → own b = none) (h3 : Mv (fun _ => False) w wr)
    (h4 : own nb = some .net) (h7 : ∀ b, lv.ownBlock = some b → w.heap.size ≤ b ∧ own b = none ∧ b < wr.heap.size) (h8 : FatesIs wr own fv F) (h9 : ∀ i, i < k → LaneIs wr own A i lq0 false)
    (hq : wr'.heap[q]? = some (.cells #[.chan (some c), .bool false, .int .i64 0] 86 (0, 0))) (hc : wr'.heap[c]? = some (.chan 64 #[] false 0 0 false))
    (hqb : wr.heap.size ≤ q) (hcb : wr.heap.size ≤ c) (hqc : q ≠ c)
    (hnb : wr'.heap[nb]? = some (.cells #[lv', fv, .int .i64 0, .int .i64 0, .slice none 0 0] 82 (0, 0)))
    (hmv : Mv (fun b => b = nb ∨ lv.ownBlock = some b) wr wr')
    (hrow : wr'.ownsRow w.heap.size 83 1 lv' (k + 1) (((List.range k).map fun i => .pointer (some ⟨A.q i, 0, none⟩)) ++ [.pointer (some ⟨q, 0, none⟩)]))
    (hgg : lv'.ownBlock = some gg) (hat : lv.ownBlock = some gg ∨ (wr.heap.size ≤ gg ∧ gg ≠ q ∧ gg ≠ c)) : NewRel w nb F fv (k + 1) lv' wr' := by
  have hne : ∀ b t, own b = some t → b ≠ q ∧ b ≠ c := fun b t hb => by have := h1 b t hb; omega
  have hwn : w.heap.size ≤ nb := by
    rcases Nat.lt_or_ge nb w.heap.size with h | h
    · rw [h2 nb h] at h4; cases h4
    · exact h
  have hk : ∀ b t, own b = some t → ((own.put q (.q k)).put c (.c k)) b = some t := fun b t hb => by
    rw [Own.put_other _ _ (hne b t hb).2, Own.put_other _ _ (hne b t hb).1]; exact hb
  have key : ∀ b t, own b = some t → t ≠ .net → ((own.put q (.q k)).put c (.c k)) b = some t ∧ wr'.heap[b]? = wr.heap[b]? := fun b t hb ht =>
    ⟨hk b t hb, hmv.block b (h1 b t hb) (fun e => by
      rcases e with rfl | e
      · rw [h4] at hb; cases hb; exact ht rfl
      · rw [(h7 b e).2.1] at hb; cases hb)⟩
  refine ⟨(own.put q (.q k)).put c (.c k), { A with q := fun i => if i = k then q else A.q i, c := fun i => if i = k then c else A.c i }, hA, ((h1.mono hmv.size).put (lt_of_heap hq) _).put (lt_of_heap hc) _, ?_, ?_, hk _ _ h4, hnb, ?_, ?_, h8.keep (fun b hb => key b _ hb (by simp)), ?_⟩
  · intro b hb
    have := h3.size
    rw [Own.put_other _ _ (by omega), Own.put_other _ _ (by omega)]; exact h2 b hb
  · refine h3.trans' hmv fun b hb he => ?_
    rcases he with rfl | he
    · omega
    · have := (h7 b he).1; omega
  · have e : ((List.range (k + 1)).map fun i => Value.pointer (some ⟨if i = k then q else A.q i, 0, none⟩)) = ((List.range k).map fun i => Value.pointer (some ⟨A.q i, 0, none⟩)) ++ [.pointer (some ⟨q, 0, none⟩)] := by
      rw [List.range_succ, List.map_append]
      congr 1
      · refine List.map_congr_left fun i hi => ?_
        have : i ≠ k := by have := List.mem_range.1 hi; omega
        simp [this]
      · simp
    simp only [e]; exact hrow
  · intro b hb
    rw [hgg] at hb; cases hb
    rcases hat with h | ⟨ha, hb1, hb2⟩
    · have h5 := h7 gg h
      rw [Own.put_other _ _ (by omega), Own.put_other _ _ (by omega)]; exact h5.2.1
    · rw [Own.put_other _ _ hb2, Own.put_other _ _ hb1]; exact h1.none ha
  · intro i hi
    by_cases hik : i = k
    · subst hik
      refine ⟨by simp only [if_true]; rw [Own.put_other _ _ hqc, Own.put_same], by simp only [if_true]; rw [Own.put_same], by simp only [if_true]; simpa [lq0] using hq, #[], 0, 0, by simp only [if_true]; exact hc, rfl, fun j v l hv hl => by simp at hv⟩
    · have := (h9 i (by omega)).keep (w' := wr') (own' := (own.put q (.q k)).put c (.c k)) fun b t hb ht => key b t hb (by rcases ht with rfl | rfl | ⟨_, rfl⟩ <;> simp)
      unfold LaneIs at this ⊢
      simpa [hik] using this
end Go.Proofs.Ytadalodjnbnjkaa
