/- Send, by the kind of its fate. -/
import Derived.Test.YtadalodjnbnjkaaSend4
namespace Go.Proofs.Ytadalodjnbnjkaa
open Go.RowKit Go.Conc

theorem NetIs.still {w w' : World} {own : Own} {A : Ga} {N : Nt} (h : NetIs w own A N) (hm : Mv (fun _ => False) w w') : NetIs w' own A N :=
  h.apart (own₂ := fun _ => none) (hm.mono fun _ _ h => h.elim) (fun _ => .inr rfl)
theorem MsgIn.still {w w' : World} {own : Own} {ad : Addr} {l : List Int} (h : MsgIn w own ad l) (hm : Mv (fun _ => False) w w') : MsgIn w' own ad l :=
  h.keep (hm.mono fun _ _ h => h.elim) (Grows.refl _ _)

theorem fateL' (w : World) (own : Own) (A : Ga) (N : Nt) (k n : Int) (h : NetIs w own A N) (hb : N.sent < 1099511627776) (hkn : N.fateOf = (k, n)) :
    Calls Try.prog 34 #[.pointer (some ⟨A.net, 0, none⟩)] w fun e w' => e = .returned (.agg #[.int .i64 k, .int .i64 n]) ∧ NetIs w' own A N.took ∧ Mv own.has w w' :=
  (fateL w own A N h hb).mono fun e w' ⟨h1, h2, h3⟩ => ⟨by rw [h1, hkn], h2, h3⟩

/-- What Send asks of its net. -/
structure Fit (N : Nt) : Prop where
  fates : ∀ f ∈ N.fates, mayF f
  sent : N.sent < 549755813888
  now : N.now < 549755813888
  later : N.later.length < 549755813888
  coming : ∀ i, i < N.nl → (N.lane i).coming ≤ N.later.length

theorem Leaves.trans {w w1 w2 : World} {own own1 : Own} {A : Ga} {N' : Nt} {e₀ e : Ending} (hm : Mv own.has w w1) (hg : Grows w.heap.size own own1) (h : Leaves w1 own1 A N' e₀ e w2) : e = e₀ ∧ ∃ own', NetIs w2 own' A N' ∧ Mv own.has w w2 ∧ Grows w.heap.size own own' := by
  obtain ⟨he, own', h1, h2, h3⟩ := h
  refine ⟨he, own', h1, hm.trans' h2 fun b hb hh ho => hh (hg b hb ho), hg.trans h3 hm.size⟩

theorem Fit.took {N : Nt} (h : Fit N) : N.took.now < 549755813888 ∧ N.took.later.length < 549755813888 ∧ ∀ i, i < N.nl → (N.took.lane i).coming < 549755813888 :=
  ⟨h.now, h.later, fun i hi => Nat.lt_of_le_of_lt (h.coming i hi) h.later⟩

/-- send, whatever its ticks. -/
theorem sendAt_any (w : World) (own : Own) (A : Ga) (N : Nt) (i t : Nat) (ad : Addr) (n cap : Nat) (l : List Int) (h : NetIs w own A N) (hi : i < N.nl) (hop : (N.lane i).closed = false)
    (hb1 : t < 1099511627776) (hb2 : N.now < 1099511627776) (hb3 : N.later.length < 1099511627776) (hb4 : (N.lane i).coming < 1099511627776)
    (hn : l.length = n) (hm : MsgIn w own ad l) (hsz : n ≤ 1099511627776) :
    Calls Try.prog 35 #[.pointer (some ⟨A.net, 0, none⟩), .int .i64 i, .int .i64 t, .slice (some ad) n cap] w (Leaves w own A (N.sendAt i t l) (.returned (.tuple #[]))) := by
  by_cases ht : t = 0
  · subst ht
    exact send_now w own A N i ad n cap l h hi hop hn hm.2.2 hsz
  · have : N.sendAt i t l = N.delayed i t l := by simp [Nt.sendAt, ht]
    rw [this]
    exact send_late w own A N i t ad n cap l h hi hop (by omega) hb1 hb2 hb3 hb4 hn hm.2.2 hm.1 hsz

set_option maxRecDepth 100000 in
set_option maxHeartbeats 1600000 in
/-- A message that is delivered. -/
theorem Send_deliver (w : World) (own : Own) (A : Ga) (N : Nt) (i : Nat) (ad : Addr) (n cap : Nat) (l : List Int) (h : NetIs w own A N) (hf : Fit N) (hi : i < N.nl) (hop : (N.lane i).closed = false)
    (hn : l.length = n) (hl : n ≤ 1048576) (hm : MsgIn w own ad l) (m : Int) (hkn : N.fateOf = (0, m)) :
    Calls Try.prog 18 #[.pointer (some ⟨A.net, 0, none⟩), .int .i64 i, .slice (some ad) n cap] w (Leaves w own A (N.took.pushed i l) (.returned (.int .i64 0))) := by
  have H := Lib.hid h
  have HF := Lib.hid hf
  have HN := Lib.hid hn
  have HM := Lib.hid hm
  have HK := Lib.hid hkn
  have HO := Lib.hid hop
  obtain ⟨h0, capl, fv, lv, h1, h2, h3, h4, h5⟩ := h
  have g0 : w.cell? ⟨A.net, 0, none⟩ = some (.slice (some ⟨A.arr, 0, none⟩) N.nl capl) := cell_of_heap h1.2 0 rfl
  have g1 := h2.cell hi
  have gq : w.cell? ⟨A.q i, 1, none⟩ = some (.bool false) := by rw [← hop]; exact cell_of_heap (h5 i hi).2.2.1 1 rfl
  have hii : (i : Int) < N.nl := by omega
  have hlong : ¬ ((1048576 : Int) < n) := by omega
  have hlong' : decide ((n : Int) > 1048576) = false := by simp; omega
  clear h0 h1 h2 h3 h4 h5 hf hn hm hkn hop
  go_enter Try.func18, Try.ntmps18
  go_wp2_with (first
    | (go_at_call 33; refine (has_yes _ A.net N.nl capl _ _ g0 (by omega) (by omega)).mono ?_; rintro e w' ⟨rfl, rfl⟩)
    | (go_at_call 34; refine (fateL' _ own A N 0 m H.out (by have := HF.out.sent; omega) HK.out).mono ?_; rintro e w1 ⟨rfl, hN1, hm1⟩))
  have hs : Mv (fun _ => False) w1 (w1.alloc (.cells #[.int .i64 0, .int .i64 m] 63)) := (Mv.refl _ _).alloc _
  refine (send_now _ own A N.took i ad n cap l (hN1.still hs) hi HO.out HN.out ((HM.out.keep hm1 (Grows.refl _ _)).still hs).2.2 (by omega)).mono ?_
  rintro e w2 ⟨rfl, hL⟩
  go_wp2
  go_ret
  obtain ⟨own', r1, r2, r3⟩ := hL
  exact Leaves.trans (hm1.trans' hs (fun _ _ h => h.elim)) (Grows.refl _ _) ⟨rfl, own', r1, r2, r3⟩
set_option maxRecDepth 100000 in
set_option maxHeartbeats 1600000 in
/-- A message that is lost. -/
theorem Send_drop (w : World) (own : Own) (A : Ga) (N : Nt) (i : Nat) (ad : Addr) (n cap : Nat) (l : List Int) (h : NetIs w own A N) (hf : Fit N) (hi : i < N.nl) (hop : (N.lane i).closed = false)
    (hn : l.length = n) (hl : n ≤ 1048576) (hm : MsgIn w own ad l) (m : Int) (hkn : N.fateOf = (1, m)) :
    Calls Try.prog 18 #[.pointer (some ⟨A.net, 0, none⟩), .int .i64 i, .slice (some ad) n cap] w (Leaves w own A (N.took) (.returned (.int .i64 0))) := by
  have H := Lib.hid h
  have HF := Lib.hid hf
  have HN := Lib.hid hn
  have HM := Lib.hid hm
  have HK := Lib.hid hkn
  have HO := Lib.hid hop
  obtain ⟨h0, capl, fv, lv, h1, h2, h3, h4, h5⟩ := h
  have g0 : w.cell? ⟨A.net, 0, none⟩ = some (.slice (some ⟨A.arr, 0, none⟩) N.nl capl) := cell_of_heap h1.2 0 rfl
  have g1 := h2.cell hi
  have gq : w.cell? ⟨A.q i, 1, none⟩ = some (.bool false) := by rw [← hop]; exact cell_of_heap (h5 i hi).2.2.1 1 rfl
  have hii : (i : Int) < N.nl := by omega
  have hlong : ¬ ((1048576 : Int) < n) := by omega
  have hlong' : decide ((n : Int) > 1048576) = false := by simp; omega
  clear h0 h1 h2 h3 h4 h5 hf hn hm hkn hop
  go_enter Try.func18, Try.ntmps18
  go_wp2_with (first
    | (go_at_call 33; refine (has_yes _ A.net N.nl capl _ _ g0 (by omega) (by omega)).mono ?_; rintro e w' ⟨rfl, rfl⟩)
    | (go_at_call 34; refine (fateL' _ own A N 1 m H.out (by have := HF.out.sent; omega) HK.out).mono ?_; rintro e w1 ⟨rfl, hN1, hm1⟩))
  go_ret
  have hs : Mv (fun _ => False) w1 (w1.alloc (.cells #[.int .i64 1, .int .i64 m] 63)) := (Mv.refl _ _).alloc _
  exact ⟨rfl, own, hN1.still hs, hm1.trans' hs (fun _ _ h => h.elim), Grows.refl _ _⟩
set_option maxRecDepth 100000 in
set_option maxHeartbeats 1600000 in
/-- A message that is late. -/
theorem Send_delay (w : World) (own : Own) (A : Ga) (N : Nt) (i : Nat) (ad : Addr) (n cap : Nat) (l : List Int) (h : NetIs w own A N) (hf : Fit N) (hi : i < N.nl) (hop : (N.lane i).closed = false)
    (hn : l.length = n) (hl : n ≤ 1048576) (hm : MsgIn w own ad l) (t : Nat) (ht : t ≤ 1000) (hkn : N.fateOf = (3, (t : Int))) :
    Calls Try.prog 18 #[.pointer (some ⟨A.net, 0, none⟩), .int .i64 i, .slice (some ad) n cap] w (Leaves w own A (N.took.sendAt i t l) (.returned (.int .i64 0))) := by
  have H := Lib.hid h
  have HF := Lib.hid hf
  have HN := Lib.hid hn
  have HM := Lib.hid hm
  have HK := Lib.hid hkn
  have HO := Lib.hid hop
  obtain ⟨h0, capl, fv, lv, h1, h2, h3, h4, h5⟩ := h
  have g0 : w.cell? ⟨A.net, 0, none⟩ = some (.slice (some ⟨A.arr, 0, none⟩) N.nl capl) := cell_of_heap h1.2 0 rfl
  have g1 := h2.cell hi
  have gq : w.cell? ⟨A.q i, 1, none⟩ = some (.bool false) := by rw [← hop]; exact cell_of_heap (h5 i hi).2.2.1 1 rfl
  have hii : (i : Int) < N.nl := by omega
  have hlong : ¬ ((1048576 : Int) < n) := by omega
  have hlong' : decide ((n : Int) > 1048576) = false := by simp; omega
  clear h0 h1 h2 h3 h4 h5 hf hn hm hkn hop
  go_enter Try.func18, Try.ntmps18
  go_wp2_with (first
    | (go_at_call 33; refine (has_yes _ A.net N.nl capl _ _ g0 (by omega) (by omega)).mono ?_; rintro e w' ⟨rfl, rfl⟩)
    | (go_at_call 34; refine (fateL' _ own A N 3 t H.out (by have := HF.out.sent; omega) HK.out).mono ?_; rintro e w1 ⟨rfl, hN1, hm1⟩))
  have hs : Mv (fun _ => False) w1 (w1.alloc (.cells #[.int .i64 3, .int .i64 t] 63)) := (Mv.refl _ _).alloc _
  refine (sendAt_any _ own A N.took i t ad n cap l (hN1.still hs) hi HO.out (by omega) (by have := HF.out.took.1; omega) (by have := HF.out.took.2.1; omega) (by have := HF.out.took.2.2 i hi; omega) HN.out ((HM.out.keep hm1 (Grows.refl _ _)).still hs) (by omega)).mono ?_
  rintro e w2 ⟨rfl, hL⟩
  go_wp2
  go_ret
  obtain ⟨own', r1, r2, r3⟩ := hL
  exact Leaves.trans (hm1.trans' hs (fun _ _ h => h.elim)) (Grows.refl _ _) ⟨rfl, own', r1, r2, r3⟩
end Go.Proofs.Ytadalodjnbnjkaa
