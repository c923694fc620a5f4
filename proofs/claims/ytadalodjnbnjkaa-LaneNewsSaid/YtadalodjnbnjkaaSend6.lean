/- Send: doubled, cut, spoilt; and what is refused. -/
import Derived.Test.YtadalodjnbnjkaaSend5
namespace Go.Proofs.Ytadalodjnbnjkaa
open Go.RowKit Go.Conc

set_option maxRecDepth 100000 in
set_option maxHeartbeats 1600000 in
/-- A message that comes twice. -/
theorem Send_double (w : World) (own : Own) (A : Ga) (N : Nt) (i : Nat) (ad : Addr) (n cap : Nat) (l : List Int) (h : NetIs w own A N) (hf : Fit N) (hi : i < N.nl) (hop : (N.lane i).closed = false)
    (hn : l.length = n) (hl : n ≤ 1048576) (hm : MsgIn w own ad l) (t : Nat) (ht : t ≤ 1000) (hkn : N.fateOf = (2, (t : Int))) :
    Calls Try.prog 18 #[.pointer (some ⟨A.net, 0, none⟩), .int .i64 i, .slice (some ad) n cap] w (Leaves w own A ((N.took.pushed i l).sendAt i t l) (.returned (.int .i64 0))) := by
  have H := Lib.hid h
  have HF := Lib.hid hf
  have HN := Lib.hid hn
  have HM := Lib.hid hm
  have HK := Lib.hid hkn
  have HO := Lib.hid hop
  obtain ⟨h0, capl, fv, lv, h1, h2, h3, h4, h5⟩ := h
  have g0 : w.cell? ⟨A.net, 0, none⟩ = some (.slice (some ⟨A.arr, 0, none⟩) N.nl capl) := cell_of_heap h1.2 0 rfl
  have g1 := h2.cell hi
  have gq : w.cell? ⟨A.q i, 1, none⟩ = some (.bool false) := by rw [← hop]; exact cell_of_heap (h5 i hi).2.2.1 1 rfl
  have hii : (i : Int) < N.nl := by omega
  have hlong : ¬ ((1048576 : Int) < n) := by omega
  have hlong' : decide ((n : Int) > 1048576) = false := by simp; omega
  clear h0 h1 h2 h3 h4 h5 hf hn hm hkn hop
  go_enter Try.func18, Try.ntmps18
  go_wp2_with (first
    | (go_at_call 33; refine (has_yes _ A.net N.nl capl _ _ g0 (by omega) (by omega)).mono ?_; rintro e w' ⟨rfl, rfl⟩)
    | (go_at_call 34; refine (fateL' _ own A N 2 t H.out (by have := HF.out.sent; omega) HK.out).mono ?_; rintro e w1 ⟨rfl, hN1, hm1⟩))
  have hs : Mv (fun _ => False) w1 (w1.alloc (.cells #[.int .i64 2, .int .i64 t] 63)) := (Mv.refl _ _).alloc _
  have hM := (HM.out.keep hm1 (Grows.refl _ _)).still hs
  have hF : (w1.alloc (.cells #[.int .i64 2, .int .i64 t] 63)).heap[w1.heap.size]? = some (.cells #[.int .i64 2, .int .i64 t] 63 (0, 0)) := heap_alloc_new _ _
  refine (send_now _ own A N.took i ad n cap l (hN1.still hs) hi HO.out HN.out hM.2.2 (by have := HN.out; omega)).mono ?_
  rintro e w2 ⟨rfl, own', r1, r2, r3⟩
  have hlF : own w1.heap.size = none := hN1.1.none (Nat.le_refl _)
  have hF2 : w2.heap[w1.heap.size]? = some (.cells #[.int .i64 2, .int .i64 t] 63 (0, 0)) := (r2.block _ (lt_of_heap hF) (by unfold Own.has; rw [hlF]; simp)).trans hF
  have hcF : w2.cell? ⟨w1.heap.size, 1, none⟩ = some (.int .i64 t) := cell_of_heap hF2 1 rfl
  have hM2 := Lib.hid (hM.keep r2 r3)
  have HS := Lib.hid hs
  have HF2 := Lib.hid hF2
  have HLF := Lib.hid hlF
  clear hF hs hM hF2 hlF
  go_wp2_with fail
  refine (sendAt_any _ own' A (N.took.pushed i l) i t ad n cap l r1 hi (by simp [Nt.pushed, setL_same, Lq.push]; exact HO.out) (by omega) (by have := HF.out.took.1; simp [Nt.pushed]; omega) (by have := HF.out.took.2.1; simp [Nt.pushed]; omega) (by have := HF.out.took.2.2 i hi; simp [Nt.pushed, setL_same, Lq.push]; omega) HN.out hM2.out (by omega)).mono ?_
  rintro e w3 ⟨rfl, own'', q1, q2, q3⟩
  go_wp2
  go_ret
  exact Leaves.trans (hm1.trans' ((HS.out.mono (fun _ _ h => h.elim) : Mv own.has _ _).trans' r2 (fun _ _ h => h)) (fun _ _ h => h)) (fun b hb ho => r3 b (by have := hm1.size; have := HS.out.size; omega) ho) ⟨rfl, own'', q1, q2, q3⟩
set_option maxRecDepth 100000 in
set_option maxHeartbeats 1600000 in
/-- A message that is cut short. -/
theorem Send_cut (w : World) (own : Own) (A : Ga) (N : Nt) (i : Nat) (ad : Addr) (n cap : Nat) (l : List Int) (h : NetIs w own A N) (hf : Fit N) (hi : i < N.nl) (hop : (N.lane i).closed = false)
    (hn : l.length = n) (hl : n ≤ 1048576) (hm : MsgIn w own ad l) (t : Nat) (ht : t ≤ 1048576) (hcap : n ≤ cap) (hkn : N.fateOf = (4, (t : Int))) :
    Calls Try.prog 18 #[.pointer (some ⟨A.net, 0, none⟩), .int .i64 i, .slice (some ad) n cap] w (Leaves w own A (N.took.pushed i (l.take t)) (.returned (.int .i64 0))) := by
  have H := Lib.hid h
  have HF := Lib.hid hf
  have HN := Lib.hid hn
  have HM := Lib.hid hm
  have HK := Lib.hid hkn
  have HO := Lib.hid hop
  obtain ⟨h0, capl, fv, lv, h1, h2, h3, h4, h5⟩ := h
  have g0 : w.cell? ⟨A.net, 0, none⟩ = some (.slice (some ⟨A.arr, 0, none⟩) N.nl capl) := cell_of_heap h1.2 0 rfl
  have g1 := h2.cell hi
  have gq : w.cell? ⟨A.q i, 1, none⟩ = some (.bool false) := by rw [← hop]; exact cell_of_heap (h5 i hi).2.2.1 1 rfl
  have hii : (i : Int) < N.nl := by omega
  have hlong : ¬ ((1048576 : Int) < n) := by omega
  have hlong' : decide ((n : Int) > 1048576) = false := by simp; omega
  clear h0 h1 h2 h3 h4 h5 hf hn hm hkn hop
  go_enter Try.func18, Try.ntmps18
  go_wp2_with (first
    | (go_at_call 33; refine (has_yes _ A.net N.nl capl _ _ g0 (by omega) (by omega)).mono ?_; rintro e w' ⟨rfl, rfl⟩)
    | (go_at_call 34; refine (fateL' _ own A N 4 t H.out (by have := HF.out.sent; omega) HK.out).mono ?_; rintro e w1 ⟨rfl, hN1, hm1⟩))
  all_goals
    have hs : Mv (fun _ => False) w1 (w1.alloc (.cells #[.int .i64 4, .int .i64 t] 63)) := (Mv.refl _ _).alloc _
    refine (send_now _ own A N.took i ad _ cap (l.take t) (hN1.still hs) hi HO.out (by rw [List.length_take, HN.out]; omega) (((HM.out.keep hm1 (Grows.refl _ _)).still hs).take t).2.2 (by omega)).mono ?_
    rintro e w2 ⟨rfl, hL⟩
    go_wp2
    go_ret
    obtain ⟨own', r1, r2, r3⟩ := hL
    exact Leaves.trans (hm1.trans' hs (fun _ _ h => h.elim)) (Grows.refl _ _) ⟨rfl, own', r1, r2, r3⟩

theorem ub_spoilt_get {l : List Int} {t j : Nat} {u : Value} (h : (ub (spoilt l t))[j]? = some u) : (j = t ∧ u = .int .u8 (bits BinOp.xor IntKind.u8 (l.getD t 0) 1) ∧ t < l.length) ∨ (j ≠ t ∧ (ub l)[j]? = some u) := by
  simp only [ub, spoilt, List.getElem?_map, List.getElem?_set] at h ⊢
  by_cases hj : t = j
  · subst hj
    by_cases hl : t < l.length
    · simp [hl] at h
      exact .inl ⟨rfl, by rw [← h]; simp [List.getD_eq_getElem?_getD, hl], hl⟩
    · simp [hl] at h
  · simp only [hj, if_false] at h
    exact .inr ⟨fun e => hj e.symm, h⟩

theorem cell_msg {w : World} {g : Nat} {v : Value} {l : List Int} (h : MsgAt w g v l) {t : Nat} (ht : t < l.length) : w.cell? ⟨g, t, none⟩ = some (.int .u8 (l.getD t 0)) := by
  have := h.cells t (.int .u8 (l.getD t 0)) (by simp [ub, List.getD_eq_getElem?_getD, List.getElem?_eq_getElem ht])
  have e1 : (⟨g, 0, none⟩ : Addr).add t = ⟨g, t, none⟩ := by unfold Addr.add; split <;> simp_all
  rw [e1] at this; exact this
theorem free_msg {w : World} {g : Nat} {v : Value} {l : List Int} (h : MsgAt w g v l) (t : Nat) : w.frozen? ⟨g, t, none⟩ = false := by
  obtain ⟨cap, cur, _, hg, _⟩ := h
  exact free_of_heap hg t

theorem MsgIn_spoilt {w : World} {own : Own} {g : Nat} {v : Value} {l : List Int} {t : Nat} (h : MsgAt w g v l) (ho : own g = none) (ht : t < l.length) :
    MsgIn (w.setCell ⟨g, t, none⟩ (.int .u8 (bits BinOp.xor IntKind.u8 (l.getD t 0) 1))) own ⟨g, 0, none⟩ (spoilt l t) := by
  refine ⟨ho, by simpa [World.setCell] using h.lt, fun j u hj => ?_⟩
  have e1 : ∀ j, (⟨g, 0, none⟩ : Addr).add j = ⟨g, j, none⟩ := fun j => by unfold Addr.add; split <;> simp_all
  have hc := h.cells
  obtain ⟨cap, cur, _, hg, h1, h2, h3, h4⟩ := h
  have hset := heap_setCell_same (j := t) hg (.int .u8 (bits BinOp.xor IntKind.u8 (l.getD t 0) 1))
  rw [e1, cell_of_row _ g j _ 5 (0, 0) hset]
  rcases ub_spoilt_get hj with ⟨rfl, rfl, _⟩ | ⟨hne, hj'⟩
  · rw [Array.getElem?_setIfInBounds_self]
    rw [if_pos (by omega)]
  · have := hc j u hj'
    rw [e1, cell_of_row w g j cur 5 (0, 0) hg] at this
    rw [Array.getElem?_setIfInBounds_ne (Ne.symm hne)]
    exact this

set_option maxRecDepth 100000 in
set_option maxHeartbeats 1600000 in
/-- A message whose byte is turned. -/
theorem Send_spoil (w : World) (own : Own) (A : Ga) (N : Nt) (i : Nat) (ad : Addr) (n cap : Nat) (l : List Int) (h : NetIs w own A N) (hf : Fit N) (hi : i < N.nl) (hop : (N.lane i).closed = false)
    (hn : l.length = n) (hl : n ≤ 1048576) (hm : MsgIn w own ad l) (t : Nat) (ht : t < n) (hkn : N.fateOf = (5, (t : Int))) :
    Calls Try.prog 18 #[.pointer (some ⟨A.net, 0, none⟩), .int .i64 i, .slice (some ad) n cap] w (Leaves w own A (N.took.pushed i (spoilt l t)) (.returned (.int .i64 0))) := by
  have H := Lib.hid h
  have HF := Lib.hid hf
  have HN := Lib.hid hn
  have HM := Lib.hid hm
  have HK := Lib.hid hkn
  have HO := Lib.hid hop
  obtain ⟨h0, capl, fv, lv, h1, h2, h3, h4, h5⟩ := h
  have g0 : w.cell? ⟨A.net, 0, none⟩ = some (.slice (some ⟨A.arr, 0, none⟩) N.nl capl) := cell_of_heap h1.2 0 rfl
  have g1 := h2.cell hi
  have gq : w.cell? ⟨A.q i, 1, none⟩ = some (.bool false) := by rw [← hop]; exact cell_of_heap (h5 i hi).2.2.1 1 rfl
  have hii : (i : Int) < N.nl := by omega
  have htl : t < l.length := by omega
  have htl1 : (t : Int) < (l.length : Int) := by omega
  have hlong : ¬ ((1048576 : Int) < n) := by omega
  have hlong' : decide ((n : Int) > 1048576) = false := by simp; omega
  clear h0 h1 h2 h3 h4 h5 hf hn hm hkn hop
  go_enter Try.func18, Try.ntmps18
  go_wp2_with (first
    | (go_at_call 33; refine (has_yes _ A.net N.nl capl _ _ g0 (by omega) (by omega)).mono ?_; rintro e w' ⟨rfl, rfl⟩)
    | (go_at_call 34; refine (fateL' _ own A N 5 t H.out (by have := HF.out.sent; omega) HK.out).mono ?_; rintro e w1 ⟨rfl, hN1, hm1⟩)
    | (go_at_call 36; have hs : Mv (fun _ => False) w1 (w1.alloc (.cells #[.int .i64 5, .int .i64 t] 63)) := (Mv.refl _ _).alloc _; have hF : (w1.alloc (.cells #[.int .i64 5, .int .i64 t] 63)).heap[w1.heap.size]? = some (.cells #[.int .i64 5, .int .i64 t] 63 (0, 0)) := heap_alloc_new _ _; refine (clone_any _ ad n cap l HN.out ((HM.out.keep hm1 (Grows.refl _ _)).still hs).2.2 (by omega)).mono ?_; rintro e w2 ⟨v, g, rfl, hmg, hg, hb2⟩; have hcF : w2.cell? ⟨w1.heap.size, 1, none⟩ = some (.int .i64 t) := cell_of_heap ((hb2.block _ (lt_of_heap hF)).trans hF) 1 rfl; have hcm := cell_msg hmg htl; have hfm := free_msg hmg t; have HMG := Lib.hid hmg; have HS := Lib.hid hs; have HB2 := Lib.hid hb2; have HG := Lib.hid hg; obtain ⟨cpm, curm, rfl, _⟩ := hmg; clear hF hs hb2 hg))
  rw [show l[t] = l.getD t 0 from by simp [List.getD_eq_getElem?_getD, htl]]
  have hlg : own g = none := hN1.1.none (Nat.le_trans HS.out.size HG.out)
  have hm2 : Mv (fun _ => False) w1 (w2.setCell ⟨g, t, none⟩ (.int .u8 (bits BinOp.xor IntKind.u8 (l.getD t 0) 1))) :=
    (HS.out.trans' (Mv.of_below HB2.out) (fun _ _ h => h)).setCell (.inr (Nat.le_trans HS.out.size HG.out)) _
  have hM := MsgIn_spoilt HMG.out hlg htl
  refine (send_now _ own A N.took i ⟨g, 0, none⟩ _ cpm (spoilt l t) (hN1.still hm2) hi HO.out (by simp [spoilt]) hM.2.2 (by have := HN.out; omega)).mono ?_
  rintro e w3 ⟨rfl, own', r1, r2, r3⟩
  go_wp2
  go_ret
  exact Leaves.trans (hm1.trans' hm2 (fun _ _ h => h.elim)) (Grows.refl _ _) ⟨rfl, own', r1, r2, r3⟩

set_option maxRecDepth 100000 in
set_option maxHeartbeats 1600000 in
/-- A message that has no such byte. -/
theorem Send_spoil_no (w : World) (own : Own) (A : Ga) (N : Nt) (i : Nat) (ad : Addr) (n cap : Nat) (l : List Int) (h : NetIs w own A N) (hf : Fit N) (hi : i < N.nl) (hop : (N.lane i).closed = false)
    (hn : l.length = n) (hl : n ≤ 1048576) (hm : MsgIn w own ad l) (t : Nat) (ht : n ≤ t) (hkn : N.fateOf = (5, (t : Int))) :
    Calls Try.prog 18 #[.pointer (some ⟨A.net, 0, none⟩), .int .i64 i, .slice (some ad) n cap] w (Leaves w own A (N.took.pushed i l) (.returned (.int .i64 0))) := by
  have H := Lib.hid h
  have HF := Lib.hid hf
  have HN := Lib.hid hn
  have HM := Lib.hid hm
  have HK := Lib.hid hkn
  have HO := Lib.hid hop
  obtain ⟨h0, capl, fv, lv, h1, h2, h3, h4, h5⟩ := h
  have g0 : w.cell? ⟨A.net, 0, none⟩ = some (.slice (some ⟨A.arr, 0, none⟩) N.nl capl) := cell_of_heap h1.2 0 rfl
  have g1 := h2.cell hi
  have gq : w.cell? ⟨A.q i, 1, none⟩ = some (.bool false) := by rw [← hop]; exact cell_of_heap (h5 i hi).2.2.1 1 rfl
  have hii : (i : Int) < N.nl := by omega
  have htl : l.length ≤ t := by omega
  have htl1 : (l.length : Int) ≤ (t : Int) := by omega
  have hlong : ¬ ((1048576 : Int) < n) := by omega
  have hlong' : decide ((n : Int) > 1048576) = false := by simp; omega
  clear h0 h1 h2 h3 h4 h5 hf hn hm hkn hop
  go_enter Try.func18, Try.ntmps18
  go_wp2_with (first
    | (go_at_call 33; refine (has_yes _ A.net N.nl capl _ _ g0 (by omega) (by omega)).mono ?_; rintro e w' ⟨rfl, rfl⟩)
    | (go_at_call 34; refine (fateL' _ own A N 5 t H.out (by have := HF.out.sent; omega) HK.out).mono ?_; rintro e w1 ⟨rfl, hN1, hm1⟩)
    | (go_at_call 36; have hs : Mv (fun _ => False) w1 (w1.alloc (.cells #[.int .i64 5, .int .i64 t] 63)) := (Mv.refl _ _).alloc _; have hF : (w1.alloc (.cells #[.int .i64 5, .int .i64 t] 63)).heap[w1.heap.size]? = some (.cells #[.int .i64 5, .int .i64 t] 63 (0, 0)) := heap_alloc_new _ _; refine (clone_any _ ad n cap l HN.out ((HM.out.keep hm1 (Grows.refl _ _)).still hs).2.2 (by omega)).mono ?_; rintro e w2 ⟨v, g, rfl, hmg, hg, hb2⟩; have hcF : w2.cell? ⟨w1.heap.size, 1, none⟩ = some (.int .i64 t) := cell_of_heap ((hb2.block _ (lt_of_heap hF)).trans hF) 1 rfl; have HMG := Lib.hid hmg; have HS := Lib.hid hs; have HB2 := Lib.hid hb2; have HG := Lib.hid hg; obtain ⟨cpm, curm, rfl, _⟩ := hmg; clear hF hs hb2 hg))
  have hlg : own g = none := hN1.1.none (Nat.le_trans HS.out.size HG.out)
  have hm2 : Mv (fun _ => False) w1 w2 := HS.out.trans' (Mv.of_below HB2.out) (fun _ _ h => h)
  refine (send_now _ own A N.took i ⟨g, 0, none⟩ _ cpm l (hN1.still hm2) hi HO.out rfl HMG.out.cells (by have := HN.out; omega)).mono ?_
  rintro e w3 ⟨rfl, own', r1, r2, r3⟩
  go_wp2
  go_ret
  exact Leaves.trans (hm1.trans' hm2 (fun _ _ h => h.elim)) (Grows.refl _ _) ⟨rfl, own', r1, r2, r3⟩
end Go.Proofs.Ytadalodjnbnjkaa
