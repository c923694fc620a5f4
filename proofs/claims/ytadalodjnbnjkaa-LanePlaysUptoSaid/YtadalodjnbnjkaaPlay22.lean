/- The document's net: Send, as far as the message's copy. -/
import Derived.Test.YtadalodjnbnjkaaPlay16
import Derived.Deep.CutBlock
import Derived.Deep.DeepCutAuto
import Derived.Deep.RegionHeld3
import Derived.Deep.QuietTactic
import Derived.BigQuiet
import Derived.BigRegion
namespace Go.Proofs.Ytadalodjnbnjkaa
open Go.RowKit Go.Conc

theorem fates_at {w : World} {fa : Option Addr} {nf fc sent : Nat} {F : List (Int × Int)} (h : w.ownsRow 0 96 2 (.slice fa nf fc) F.length (fateCells F)) (hs : sent < nf) :
    ∃ g, fa = some ⟨g, 0, none⟩ ∧ w.cell? ⟨g, sent * 2, none⟩ = some (.int .i64 (F.getD sent (0, 0)).1) ∧ w.cell? ⟨g, sent * 2 + 1, none⟩ = some (.int .i64 (F.getD sent (0, 0)).2) := by
  rcases h.2 with ⟨h1, h2⟩ | ⟨g, cap, cur, h1, _⟩
  · injection h1 with _ e2 _
    omega
  · injection h1 with e1 e2 e3
    subst e1
    have hc := h.cells (g := g) rfl
    have e1 : ∀ i, (⟨g, 0, none⟩ : Addr).add i = ⟨g, i, none⟩ := fun i => by unfold Addr.add; split <;> simp_all
    have := fateCells_get F sent (by omega)
    have q1 := hc _ _ this.1
    have q2 := hc _ _ this.2
    rw [e1] at q1 q2
    exact ⟨g, rfl, q1, q2⟩
/-- Behind the copy of the message. -/
theorem SendMid.mk {w W w2 : World} {own : ROwn} {G : Nat} {R : Rf} {m : List Int} {f : Int × Int} {fb : Nat} {dv : Value} (h : RefIs W own G R.took) (hm : Mv own.may w W) (hfb : W.heap[fb]? = some (.cells #[.int .i64 f.1, .int .i64 f.2] 96 (0, 0))) (hfn : own fb = none) (hfs : w.heap.size ≤ fb) (hb : Below W.heap.size W w2)
    (hv : (m = [] ∧ dv = .slice none 0 0) ∨ ∃ g cap cur, dv = .slice (some ⟨g, 0, none⟩) m.length cap ∧ m.length ≤ cap ∧ W.heap.size ≤ g ∧ w2.heap[g]? = some (.cells cur 5 (0, 0)) ∧ cur.size = cap ∧ ∀ j, j < m.length → cur[j]? = some (.int .u8 (m.getD j 0))) :
    SendMid w own G R.took m f (.pointer (some ⟨fb, 0, none⟩)) dv w2 :=
  ⟨fb, rfl, h.still (Mv.of_below hb), hm.trans' (Mv.of_below hb) (fun _ _ hh => hh.elim), (hb.block fb (lt_of_heap hfb)).trans hfb, hfn, hfs, Fresh.of_copied h.1 hm.size hv⟩

theorem SendMid.use {w wx : World} {own : ROwn} {G : Nat} {R1 : Rf} {m : List Int} {f : Int × Int} {fv dv : Value} (h : SendMid w own G R1 m f fv dv wx) : ∃ own1, RefIs wx own1 G R1 ∧ DatIs wx own1 dv m ∧ RGrows w.heap.size own own1 ∧ ∀ b, own1 b = own b ∨ own1 b = some .dat := by
  obtain ⟨fb, _, h1, _, _, _, _, h2⟩ := h
  exact h2.adopt h1
theorem RLeaves.to {w w' : World} {own : ROwn} {G : Nat} {R' : Rf} {e₀ e : Ending} (h : RLeaves w own G R' e₀ e w') (e₁ : Ending) : RLeaves w own G R' e₁ e₁ w' := ⟨rfl, h.2⟩

set_option maxRecDepth 100000 in
set_option maxHeartbeats 3200000 in
theorem rSend_ok (w : World) (own : ROwn) (G : Nat) (R : Rf) (i : Nat) (a : Option Addr) (n c : Nat) (m : List Int) (h : RefIs w own G R) (hi : i < R.nl) (hs : R.shut i = false) (hn : n ≤ 1048576) (hm : MsgOf w own a n m) (hf : mayF R.fateOf)
    (hT : R.time < 549755813888) (hL0 : R.lates.length < 549755813888) (hS : R.sent < 549755813888) :
    Calls Try.prog 56 #[.pointer (some ⟨G, 0, none⟩), .int .i64 i, .slice a n c] w (RLeaves w own G (R.send i m) (.returned (.int .i64 0))) := by
  have his := is_any h i
  have e : decide ((0 : Int) ≤ i ∧ (i : Int) < R.nl) = true := by simp; exact hi
  rw [e] at his
  have HI := Lib.hid his
  obtain ⟨fv, wb, wcap, sb, scap, lv, cur, hp⟩ := h.parts
  have c4 : w.cell? ⟨G, 4, none⟩ = some (.slice (some ⟨sb, 0, none⟩) R.nl scap) := cell_of_heap hp.head.2 4 rfl
  have cs : w.cell? ⟨sb, i, none⟩ = some (.bool false) := by
    obtain ⟨_, _, sc, s1, s2⟩ := hp.sarr
    have := cell_of_heap s1 i (s2 i hi)
    rw [hs] at this; exact this
  have c1 : w.cell? ⟨G, 1, none⟩ = some fv := cell_of_heap hp.head.2 1 rfl
  have c2 : w.cell? ⟨G, 2, none⟩ = some (.int .i64 R.sent) := cell_of_heap hp.head.2 2 rfl
  have f2 : w.frozen? ⟨G, 2, none⟩ = false := free_of_heap hp.head.2 2
  have hGl := lt_of_heap hp.head.2
  have hsl : sb < w.heap.size := World.block_lt_of_cell? _ _ cs
  have HP := Lib.hid hp
  have HM := Lib.hid hm
  have HFM := Lib.hid hf
  obtain ⟨nl, hnl⟩ : ∃ n, n = R.nl := ⟨_, rfl⟩
  rw [← hnl] at hi c4
  have hii : (i : Int) < nl := by omega
  have hi0 : (0 : Int) ≤ i := by omega
  have hnn : (n : Int) ≤ 1048576 := by omega
  have hnn2 : decide ((n : Int) > 1048576) = false := by simp; omega
  obtain ⟨sent, hsent⟩ : ∃ n, n = R.sent := ⟨_, rfl⟩
  rw [← hsent] at c2 hS
  have HSENT := Lib.hid hsent
  obtain ⟨nf, fa, fc, hfv⟩ : ∃ nf fa fc, fv = .slice fa nf fc ∧ nf = R.fates.length := by
    rcases hp.fates.1.2 with ⟨h1, h2⟩ | ⟨g, cap, _, h1, _⟩
    · exact ⟨0, none, 0, h1, h2.symm⟩
    · exact ⟨_, _, cap, h1, rfl⟩
  obtain ⟨rfl, hnf⟩ := hfv
  have HNF := Lib.hid hnf
  have HNL := Lib.hid hnl
  clear h his e hp hs hm hf hnl hsent hnf
  go_enter Try.func56, Try.ntmps56
  go_upto_region 9 with (go_at_call 63; refine HI.out.mono ?_; rintro e w' ⟨rfl, rfl⟩)
  have hGne : G ≠ w.heap.size := by omega
  go_quiet (fail)
  go_upto_if 35 with fail
  go_cut [] (fun wx => Mv (fun _ => False) w wx ∧ wx.heap[w.heap.size]? = some (.cells #[.int .i64 R.fateOf.1, .int .i64 R.fateOf.2] 96 (0, 0)))
  case first =>
    by_cases hsf : sent < nf
    case neg =>
      have hz : R.fateOf = (0, 0) := by
        unfold Rf.fateOf
        rw [← HSENT.out, List.getD_eq_getElem?_getD, List.getElem?_eq_none (by rw [← HNF.out]; omega)]; rfl
      have HZ := Lib.hid hz
      clear hz
      go_wp2_with fail
      go_meet
      rw [HZ.out]
      exact ⟨((Mv.refl _ _).alloc _).drewN _, heap_alloc_new w _⟩
    case pos =>
      obtain ⟨fk, hfk⟩ : ∃ v, v = R.fateOf.1 := ⟨_, rfl⟩
      obtain ⟨fn, hfn⟩ : ∃ v, v = R.fateOf.2 := ⟨_, rfl⟩
      obtain ⟨g, rfl, gk, gn⟩ := fates_at HP.out.fates.1 hsf
      have gk' : w.cell? ⟨g, sent * 2, none⟩ = some (.int .i64 fk) := by rw [hfk]; unfold Rf.fateOf; rw [← HSENT.out]; exact gk
      have gn' : w.cell? ⟨g, sent * 2 + 1, none⟩ = some (.int .i64 fn) := by rw [hfn]; unfold Rf.fateOf; rw [← HSENT.out]; exact gn
      have hgl : g < w.heap.size := World.block_lt_of_cell? _ _ gk
      have hgne : g ≠ w.heap.size := by omega
      have hlt2 : (sent : Int) < nf := by omega
      have hs0 : (0 : Int) ≤ sent := by omega
      have HFK := Lib.hid hfk
      have HFN := Lib.hid hfn
      clear hfk hfn gk gn
      go_wp2_with fail
      go_region
      go_wp2_with fail
      go_meet
      refine ⟨Mv.setCell (Mv.setCell (((Mv.refl _ _).alloc _).drewN _) (.inr (Nat.le_refl _)) _) (.inr (Nat.le_refl _)) _, ?_⟩
      have h0 : ∀ d, ((w.alloc (.cells #[.int .i64 0, .int .i64 0] 96)).drewN d).heap[w.heap.size]? = some (.cells #[.int .i64 0, .int .i64 0] 96 (0, 0)) := fun d => heap_alloc_new w _
      rw [heap_setCell_same (heap_setCell_same (h0 _) _), HFK.out, HFN.out]
      simp
  case rest =>
    obtain ⟨hmw, hfb⟩ := hcut
    have d2 : wc.cell? ⟨G, 2, none⟩ = some (.int .i64 sent) := (hmw.cell (p := ⟨G, 2, none⟩) hGl id).trans c2
    have e2 : wc.frozen? ⟨G, 2, none⟩ = false := (hmw.frozen (p := ⟨G, 2, none⟩) hGl id).trans f2
    have ht := HP.out.took hmw
    rw [← HSENT.out] at ht
    have hfb2 : (wc.setCell ⟨G, 2, none⟩ (.int .i64 ((sent : Int) + 1))).heap[w.heap.size]? = some (.cells #[.int .i64 R.fateOf.1, .int .i64 R.fateOf.2] 96 (0, 0)) := (heap_setCell_other (Ne.symm hGne) _).trans hfb
    have hon : own w.heap.size = none := HP.out.lies.none (Nat.le_refl _)
    have HT1 := Lib.hid ht.1
    have HT2 := Lib.hid ht.2
    have HFB := Lib.hid hfb2
    have HON := Lib.hid hon
    clear hmw hfb ht hfb2 hon c1 c2 c4 cs f2
    go_wp2_with fail
    refine (copied_any _ a n c m (HM.out.row HT2.out) (by omega)).mono ?_
    rintro e w2 ⟨dv, rfl, hb2, hv⟩
    have hmid : SendMid w own G R.took m R.fateOf (.pointer (some ⟨w.heap.size, 0, none⟩)) dv w2 := SendMid.mk HT1.out HT2.out HFB.out HON.out (Nat.le_refl _) hb2 hv
    have HMID := Lib.hid hmid
    clear hb2 hv hmid
    obtain ⟨x, hx⟩ : ∃ x : Int × Int, x = R.fateOf := ⟨_, rfl⟩
    obtain ⟨fk, fn⟩ := x
    rw [← hx] at HMID HFM
    have hres : R.send i m = R.took.fated i m (fk, fn) := by unfold Rf.send; rw [← hx]
    have HRES := Lib.hid hres
    clear hres hx
    obtain ⟨fb, hfv, hR0, hmv0, hfb0, hfn0, hfs0, hfr0⟩ := HMID.out
    obtain rfl : fb = w.heap.size := by
      injection hfv with h1
      injection h1 with h2
      injection h2 with h3
      exact h3.symm
    have g0 : w2.cell? ⟨w.heap.size, 0, none⟩ = some (.int .i64 fk) := cell_of_heap hfb0 0 rfl
    have g1 : w2.cell? ⟨w.heap.size, 1, none⟩ = some (.int .i64 fn) := cell_of_heap hfb0 1 rfl
    obtain ⟨own1, hR1, hD1, hg1, hsame1⟩ := HMID.out.use
    have HR1 := Lib.hid hR1
    have HD1 := Lib.hid hD1
    have HG1 := Lib.hid hg1
    have HS1 := Lib.hid hsame1
    have HMV := Lib.hid hmv0
    have hin1 : i < R.took.nl := by show i < R.nl; rw [← HNL.out]; exact hi
    have HIN1 := Lib.hid hin1
    obtain ⟨da, dc, rfl, _⟩ := hD1
    obtain ⟨ml, hml⟩ : ∃ n, n = m.length := ⟨_, rfl⟩
    rw [← hml] at HD1 ⊢
    have HML := Lib.hid hml
    have HFN := Lib.hid hfn0
    clear hfv hR0 hfb0 hfn0 hfs0 hfr0 hR1 hg1 hsame1 hmv0 hin1 hml
    rcases HFM.out with hk | hk | ⟨hk, hx0, hx1⟩ | ⟨hk, hx0, hx1⟩
    · obtain rfl : fk = 0 := hk
      have hL := fun W2 e2 (h2 : RLeaves w2 own1 G (R.took.come i m) (.returned (.tuple #[])) e2 W2) => (RLeaves.after HMV.out HG1.out h2).to (.returned (.int .i64 0))
      have HL := Lib.hid hL
      have hcall := rcome_any w2 own1 G R.took i m _ HR1.out HIN1.out HD1.out
      have HCALL := Lib.hid hcall
      have hres : R.took.fated i m (0, fn) = R.took.come i m := by simp [Rf.fated]
      have HRE := Lib.hid (HRES.out.trans hres)
      clear hL hcall hres
      go_wp2_with fail
      refine HCALL.out.mono ?_
      rintro e w3 h2
      obtain rfl := h2.1
      have H2 := Lib.hid h2
      clear h2
      go_wp2_with fail
      go_ret
      rw [HRE.out]
      exact HL.out _ _ H2.out
    · obtain rfl : fk = 1 := hk
      have hres : R.took.fated i m (1, fn) = R.took := by simp [Rf.fated]
      have HRE := Lib.hid (HRES.out.trans hres)
      clear hres
      go_wp2_with fail
      go_ret
      rw [HRE.out]
      obtain ⟨fb, _, hR0, hmv0, _⟩ := HMID.out
      exact ⟨rfl, own, hR0, hmv0, RGrows.refl _ _⟩
    · simp only at hx0 hx1 hk
      obtain ⟨x, rfl⟩ : ∃ y : Nat, fn = (y : Int) := ⟨fn.toNat, by omega⟩
      rcases hk with rfl | rfl
      · have hcall := rcome_any w2 own1 G R.took i m _ HR1.out HIN1.out HD1.out
        have HCALL := Lib.hid hcall
        have hres : R.took.fated i m (2, (x : Int)) = (R.took.come i m).late i m x := by simp [Rf.fated]
        have HRE := Lib.hid (HRES.out.trans hres)
        clear hcall hres
        go_wp2_with fail
        refine HCALL.out.mono ?_
        rintro e w3 h2
        obtain rfl := h2.1
        obtain ⟨own2, hR2, hm2, hg2⟩ := h2.2
        have hfb3 : ¬ own1.may w.heap.size := calm_of (HS1.out _) HFN.out
        have hl2 : w.heap.size < w2.heap.size := World.block_lt_of_cell? _ _ g1
        have q1 : w3.cell? ⟨w.heap.size, 1, none⟩ = some (.int .i64 x) := (hm2.cell (p := ⟨w.heap.size, 1, none⟩) hl2 hfb3).trans g1
        have hfb4 : ¬ own2.may w.heap.size := fun hh => hfb3 (hg2.may hl2 hh)
        have hrow3 : RowIn w3 a n m := by
          have h0 := HM.out.row HMV.out
          by_cases hn0 : n = 0
          · exact ⟨h0.1, .inl hn0⟩
          · exact h0.keep fun ad had => hm2.block _ (Nat.lt_of_lt_of_le (HM.out.2 hn0 ad had).1 HMV.out.size) (calm_of (HS1.out _) (HM.out.2 hn0 ad had).2)
        have hl3 : w.heap.size < w3.heap.size := World.block_lt_of_cell? _ _ q1
        have HR2 := Lib.hid hR2
        have HM2 := Lib.hid hm2
        have HG2 := Lib.hid hg2
        have HROW3 := Lib.hid hrow3
        have HFB4 := Lib.hid hfb4
        clear hR2 hm2 hg2 hrow3 hfb3 hfb4 h2 g0 g1
        go_upto_region 18 with fail
        go_region_held3 (fun w' => w'.cell? ⟨w.heap.size, 1, none⟩ = some (.int .i64 x))
          (go_keep)
          (first
            | (go_at_call 64; refine (copied_any w3.drew a n c m (HROW3.out.of_heap rfl) (by omega)).mono ?_; rintro e w4 ⟨v4, rfl, hb4, hv4⟩; have hb4' : Below w3.heap.size w3 w4 := (((Mv.refl _ _).drew).trans (Mv.of_below hb4)).below; have q2 : w4.cell? ⟨w.heap.size, 1, none⟩ = some (.int .i64 x) := (hb4'.cell (p := ⟨w.heap.size, 1, none⟩) hl3).trans q1; have hfr4 : Fresh w3.heap.size w4 own2 v4 m := Fresh.of_copied (w := w3) HR2.out.1 (Nat.le_refl _) hv4; obtain ⟨own3, hR3, hD3, hg3, hs3⟩ := hfr4.adopt (HR2.out.still (Mv.of_below hb4')); have hcall4 := rlater_any w4 own3 G (R.took.come i m) i x m v4 hR3 HIN1.out hD3 (by omega) hT hL0; have HCALL4 := Lib.hid hcall4; have HG3 := Lib.hid hg3; have HB4 := Lib.hid hb4'; have hfb5 : ¬ own3.may w.heap.size := (fun hh => HFB4.out (hg3.may hl3 hh)); have HFB5 := Lib.hid hfb5; have hl4 : w.heap.size < w4.heap.size := World.block_lt_of_cell? _ _ q2; obtain ⟨da4, dc4, rfl, _⟩ := hD3; clear hb4 hb4' hv4 hfr4 hR3 hg3 hs3 hcall4 hfb5)
            | (go_at_call 66; refine HCALL4.out.mono ?_; rintro e w5 h5; obtain rfl := h5.1; obtain ⟨own4, hR4, hm4, hg4⟩ := h5.2; have q3 : w5.cell? ⟨w.heap.size, 1, none⟩ = some (.int .i64 x) := (hm4.cell (p := ⟨w.heap.size, 1, none⟩) hl4 HFB5.out).trans q2; have H5 := Lib.hid h5; clear h5 hR4 hm4 hg4))
        go_wp2_with fail
        go_ret
        rw [HRE.out]
        have hm34 : Mv own2.may w3 w4 := (Mv.of_below HB4.out).mono fun _ _ hh => hh.elim
        exact (RLeaves.after HMV.out HG1.out (RLeaves.after HM2.out HG2.out (RLeaves.after hm34 HG3.out H5.out))).to (.returned (.int .i64 0))
      · have hL := fun W2 e2 (h2 : RLeaves w2 own1 G (R.took.late i m x) (.returned (.tuple #[])) e2 W2) => (RLeaves.after HMV.out HG1.out h2).to (.returned (.int .i64 0))
        have HL := Lib.hid hL
        have hcall := rlater_any w2 own1 G R.took i x m _ HR1.out HIN1.out HD1.out (by omega) hT hL0
        have HCALL := Lib.hid hcall
        have hres : R.took.fated i m (3, (x : Int)) = R.took.late i m x := by simp [Rf.fated]
        have HRE := Lib.hid (HRES.out.trans hres)
        clear hL hcall hres
        go_wp2_with fail
        refine HCALL.out.mono ?_
        rintro e w3 h2
        obtain rfl := h2.1
        have H2 := Lib.hid h2
        clear h2
        go_wp2_with fail
        go_ret
        rw [HRE.out]
        exact HL.out _ _ H2.out
    · simp only at hx0 hx1 hk
      obtain ⟨x, rfl⟩ : ∃ y : Nat, fn = (y : Int) := ⟨fn.toNat, by omega⟩
      by_cases hxl : x < ml
      · have hxi : (x : Int) < ml := by omega
        have hxi0 : (0 : Int) ≤ x := by omega
        obtain ⟨fb, _, hR0, _, _, _, _, hfr0⟩ := HMID.out
        obtain ⟨g, cap, cur, hv, hcap, hg0, hgn, hgh, hgs, hgc⟩ := hfr0.resolve_left (fun hh => by have := HML.out; rw [hh.1] at this; simp at this; omega)
        injection hv with hv1 _ hv3
        subst hv1 hv3
        have hxc : (x : Int) ≤ dc := by have := HML.out; omega
        have hgne : g ≠ w.heap.size := fun e => by
          have h1 := hgh
          obtain ⟨fb, hfv, _, _, hfb0, _⟩ := HMID.out
          injection hfv with h1'
          injection h1' with h2'
          injection h2' with h3'
          rw [e, h3', hfb0] at h1
          injection h1 with h1
          injection h1 with _ h2
          cases h2
        rcases hk with rfl | rfl
        · have hrowx : RowIn w2 (some ⟨g, 0, none⟩) x (m.take x) := RowIn.part (n := m.length) ⟨rfl, .inr ⟨g, 0, rfl, fun j hj => by rw [Nat.zero_add]; exact cell_of_heap hgh j (hgc j hj)⟩⟩ (by rw [← HML.out]; omega)
          obtain ⟨mx, hmx⟩ : ∃ mx, mx = m.take x := ⟨_, rfl⟩
          rw [← hmx] at hrowx
          have hcp := copied_any w2 (some ⟨g, 0, none⟩) x dc mx hrowx (by omega)
          have HCP := Lib.hid hcp
          have HR0 := Lib.hid hR0
          have hres : R.took.fated i m (4, (x : Int)) = R.took.come i mx := by rw [hmx]; simp [Rf.fated]
          have HRE := Lib.hid (HRES.out.trans hres)
          have hxcap : x ≤ dc := by omega
          clear hrowx hcp hR0 hgh hgs hgc hgn hfr0 hres hmx
          go_wp2_with fail
          refine HCP.out.mono ?_
          rintro e w3 ⟨v3, rfl, hb3, hv3⟩
          have hfr3 : Fresh w.heap.size w3 own v3 mx := Fresh.of_copied HR0.out.1 HMV.out.size hv3
          obtain ⟨own2, hR2, hD2, hg2, _⟩ := hfr3.adopt (HR0.out.still (Mv.of_below hb3))
          have hcall := rcome_any w3 own2 G R.took i mx v3 hR2 HIN1.out hD2
          have HCALL := Lib.hid hcall
          have hmv3 : Mv own.may w w3 := HMV.out.trans' (Mv.of_below hb3) (fun _ _ hh => hh.elim)
          have HMV3 := Lib.hid hmv3
          have HG2 := Lib.hid hg2
          obtain ⟨da3, dc3, rfl, _⟩ := hD2
          obtain ⟨lx, hlx⟩ : ∃ n, n = mx.length := ⟨_, rfl⟩
          rw [← hlx] at HCALL ⊢
          clear hlx
          clear hb3 hv3 hfr3 hR2 hg2 hcall hmv3
          go_wp2_with fail
          refine HCALL.out.mono ?_
          rintro e w4 h2
          obtain rfl := h2.1
          have H2 := Lib.hid h2
          clear h2
          go_wp2_with fail
          go_ret
          rw [HRE.out]
          exact (RLeaves.after HMV3.out HG2.out H2.out).to (.returned (.int .i64 0))
        · obtain ⟨z, hz⟩ : ∃ z, z = m.getD x 0 := ⟨_, rfl⟩
          have hxm : x < m.length := by rw [← HML.out]; exact hxl
          have p0 : w2.cell? ⟨g, x, none⟩ = some (.int .u8 z) := by rw [hz]; exact cell_of_heap hgh x (hgc x hxm)
          have p1 : w2.frozen? ⟨g, x, none⟩ = false := free_of_heap hgh x
          have hspn : RefIs ((w2.setCell ⟨g, x, none⟩ (.int .u8 (bits BinOp.xor IntKind.u8 z 1))).drew) own G R.took ∧ Mv own.may w ((w2.setCell ⟨g, x, none⟩ (.int .u8 (bits BinOp.xor IntKind.u8 z 1))).drew) ∧ Fresh w.heap.size ((w2.setCell ⟨g, x, none⟩ (.int .u8 (bits BinOp.xor IntKind.u8 z 1))).drew) own (.slice (some ⟨g, 0, none⟩) ml dc) (spoilt m x) := by
            have hm1 : Mv (fun b => b = g) w2 ((w2.setCell ⟨g, x, none⟩ (.int .u8 (bits BinOp.xor IntKind.u8 z 1))).drew) := (Mv.setCell (F := fun b => b = g) (Mv.refl _ _) (.inl rfl) _).drew
            refine ⟨hR0.write hgn hm1, HMV.out.trans' hm1 (fun b hb e => ?_), .inr ⟨g, dc, cur.setIfInBounds x (.int .u8 (bits BinOp.xor IntKind.u8 z 1)), ?_, ?_, hg0, hgn, heap_setCell_same (w := w2) hgh _, by simpa using hgs, fun j hj => ?_⟩⟩
            · subst e; omega
            · unfold spoilt; rw [List.length_set, ← HML.out]
            · unfold spoilt; rw [List.length_set]; exact hcap
            · have hj2 : j < m.length := by unfold spoilt at hj; rw [List.length_set] at hj; exact hj
              by_cases e : j = x
              · subst e
                rw [Array.getElem?_setIfInBounds_self, if_pos (by omega), hz]
                unfold spoilt
                simp [hxm]
              · rw [Array.getElem?_setIfInBounds_ne (Ne.symm e), hgc j hj2]
                unfold spoilt
                simp [List.getD_eq_getElem?_getD, Ne.symm e]
          have HSPN := Lib.hid hspn
          have hres : R.took.fated i m (5, (x : Int)) = R.took.come i (spoilt m x) := by simp [Rf.fated, hxm]
          have HRE := Lib.hid (HRES.out.trans hres)
          clear hspn hR0 hgh hgs hgc hgn hfr0 hz hres
          go_upto_region 27 with fail
          go_region
          obtain ⟨own2, hR2, hD2, hg2, _⟩ := HSPN.out.2.2.adopt HSPN.out.1
          obtain ⟨mx, hmx⟩ : ∃ mx, mx = spoilt m x := ⟨_, rfl⟩
          rw [← hmx] at hD2
          have hcall := rcome_any _ own2 G R.took i mx _ hR2 HIN1.out hD2
          have HCALL := Lib.hid hcall
          have HG2 := Lib.hid hg2
          have HMX := Lib.hid hmx
          clear hR2 hD2 hg2 hcall hmx
          go_wp2_with fail
          refine HCALL.out.mono ?_
          rintro e w4 h2
          obtain rfl := h2.1
          have H2 := Lib.hid h2
          clear h2
          go_wp2_with fail
          go_ret
          rw [HRE.out, ← HMX.out]
          exact (RLeaves.after HSPN.out.2.1 HG2.out H2.out).to (.returned (.int .i64 0))
      · have hxi : ¬ (x : Int) < ml := by omega
        have hL := fun W2 e2 (h2 : RLeaves w2 own1 G (R.took.come i m) (.returned (.tuple #[])) e2 W2) => (RLeaves.after HMV.out HG1.out h2).to (.returned (.int .i64 0))
        have HL := Lib.hid hL
        have hcall := rcome_any w2 own1 G R.took i m _ HR1.out HIN1.out HD1.out
        have HCALL := Lib.hid hcall
        have hres : R.took.fated i m (fk, (x : Int)) = R.took.come i m := by
          rcases hk with rfl | rfl
          · simp [Rf.fated, List.take_of_length_le (show m.length ≤ x by rw [← HML.out]; omega)]
          · simp [Rf.fated, show ¬ x < m.length by rw [← HML.out]; omega]
        have HRE := Lib.hid (HRES.out.trans hres)
        clear hL hcall hres
        rcases hk with rfl | rfl
        all_goals
          go_wp2_with fail
          refine HCALL.out.mono ?_
          rintro e w3 h2
          obtain rfl := h2.1
          have H2 := Lib.hid h2
          clear h2
          go_wp2_with fail
          go_ret
          rw [HRE.out]
          exact HL.out _ _ H2.out
end Go.Proofs.Ytadalodjnbnjkaa
