/- Send, whatever its fate; and what is refused. -/
import Derived.Test.YtadalodjnbnjkaaSend6
namespace Go.Proofs.Ytadalodjnbnjkaa
open Go.RowKit Go.Conc

theorem Fit.may {N : Nt} (h : Fit N) : mayF N.fateOf := by
  unfold Nt.fateOf
  by_cases hs : N.sent < N.fates.length
  · rw [List.getD_eq_getElem?_getD, List.getElem?_eq_getElem hs]
    exact h.fates _ (List.getElem_mem hs)
  · rw [List.getD_eq_getElem?_getD, List.getElem?_eq_none (by omega)]
    exact .inl rfl

theorem Send_ok (w : World) (own : Own) (A : Ga) (N : Nt) (i : Nat) (ad : Addr) (n cap : Nat) (l : List Int) (h : NetIs w own A N) (hf : Fit N) (hi : i < N.nl) (hop : (N.lane i).closed = false)
    (hn : l.length = n) (hl : n ≤ 1048576) (hcap : n ≤ cap) (hm : MsgIn w own ad l) :
    Calls Try.prog 18 #[.pointer (some ⟨A.net, 0, none⟩), .int .i64 i, .slice (some ad) n cap] w (Leaves w own A (N.send i l) (.returned (.int .i64 0))) := by
  have hmay := hf.may
  obtain ⟨k, m⟩ : ∃ k m, N.fateOf = (k, m) := ⟨_, _, rfl⟩
  obtain ⟨m, hkm⟩ := m
  unfold Nt.send
  rw [hkm] at hmay ⊢
  rcases hmay with h0 | h1 | ⟨h2, hm0, hm1⟩ | ⟨h4, hm0, hm1⟩
  · simp only at h0; subst h0
    exact Send_deliver w own A N i ad n cap l h hf hi hop hn hl hm m hkm
  · simp only at h1; subst h1
    exact Send_drop w own A N i ad n cap l h hf hi hop hn hl hm m hkm
  · simp only at h2 hm0 hm1
    obtain ⟨t, rfl⟩ := Int.eq_ofNat_of_zero_le hm0
    rcases h2 with rfl | rfl
    · exact Send_double w own A N i ad n cap l h hf hi hop hn hl hm t (by omega) hkm
    · exact Send_delay w own A N i ad n cap l h hf hi hop hn hl hm t (by omega) hkm
  · simp only at h4 hm0 hm1
    obtain ⟨t, rfl⟩ := Int.eq_ofNat_of_zero_le hm0
    rcases h4 with rfl | rfl
    · exact Send_cut w own A N i ad n cap l h hf hi hop hn hl hm t (by omega) hcap hkm
    · by_cases ht : t < n
      · have : N.took.fated i l (5, (t : Int)) = N.took.pushed i (spoilt l t) := by simp [Nt.fated, hn, ht]
        rw [this]
        exact Send_spoil w own A N i ad n cap l h hf hi hop hn hl hm t ht hkm
      · have : N.took.fated i l (5, (t : Int)) = N.took.pushed i l := by simp [Nt.fated, hn, ht]
        rw [this]
        exact Send_spoil_no w own A N i ad n cap l h hf hi hop hn hl hm t (by omega) hkm

theorem Send_noLane (w : World) (own : Own) (A : Ga) (N : Nt) (x : Int) (v : Value) (h : NetIs w own A N) (hi : x < 0 ∨ N.nl ≤ x) :
    Calls Try.prog 18 #[.pointer (some ⟨A.net, 0, none⟩), .int .i64 x, v] w fun e w' => e = .returned (.int .i64 192) ∧ w = w' := by
  obtain ⟨h0, capl, fv, lv, h1, h2, h3, h4, h5⟩ := h
  have g0 : w.cell? ⟨A.net, 0, none⟩ = some (.slice (some ⟨A.arr, 0, none⟩) N.nl capl) := cell_of_heap h1.2 0 rfl
  have HI := Lib.hid hi
  clear h0 h1 h2 h3 h4 h5 hi
  go_enter Try.func18, Try.ntmps18
  go_wp2_with (go_at_call 33; refine (has_no _ A.net N.nl capl _ _ g0 HI.out).mono ?_; rintro e w' ⟨rfl, rfl⟩)
  go_ret
  exact ⟨rfl, rfl⟩

theorem Send_closed (w : World) (own : Own) (A : Ga) (N : Nt) (i : Nat) (v : Value) (h : NetIs w own A N) (hi : i < N.nl) (hop : (N.lane i).closed = true) :
    Calls Try.prog 18 #[.pointer (some ⟨A.net, 0, none⟩), .int .i64 i, v] w fun e w' => e = .returned (.int .i64 191) ∧ w = w' := by
  obtain ⟨h0, capl, fv, lv, h1, h2, h3, h4, h5⟩ := h
  have g0 : w.cell? ⟨A.net, 0, none⟩ = some (.slice (some ⟨A.arr, 0, none⟩) N.nl capl) := cell_of_heap h1.2 0 rfl
  have g1 := h2.cell hi
  have gq : w.cell? ⟨A.q i, 1, none⟩ = some (.bool true) := by rw [← hop]; exact cell_of_heap (h5 i hi).2.2.1 1 rfl
  have hii : (i : Int) < N.nl := by omega
  clear h0 h1 h2 h3 h4 h5 hop
  go_enter Try.func18, Try.ntmps18
  go_wp2_with (go_at_call 33; refine (has_yes _ A.net N.nl capl _ _ g0 (by omega) (by omega)).mono ?_; rintro e w' ⟨rfl, rfl⟩)
  go_ret
  exact ⟨rfl, rfl⟩

theorem Send_long (w : World) (own : Own) (A : Ga) (N : Nt) (i : Nat) (ad : Option Addr) (n cap : Nat) (h : NetIs w own A N) (hi : i < N.nl) (hop : (N.lane i).closed = false) (hl : 1048576 < n) :
    Calls Try.prog 18 #[.pointer (some ⟨A.net, 0, none⟩), .int .i64 i, .slice ad n cap] w fun e w' => e = .returned (.int .i64 2) ∧ w = w' := by
  obtain ⟨h0, capl, fv, lv, h1, h2, h3, h4, h5⟩ := h
  have g0 : w.cell? ⟨A.net, 0, none⟩ = some (.slice (some ⟨A.arr, 0, none⟩) N.nl capl) := cell_of_heap h1.2 0 rfl
  have g1 := h2.cell hi
  have gq : w.cell? ⟨A.q i, 1, none⟩ = some (.bool false) := by rw [← hop]; exact cell_of_heap (h5 i hi).2.2.1 1 rfl
  have hii : (i : Int) < N.nl := by omega
  have hlong : (1048576 : Int) < n := by omega
  have hlong' : decide ((n : Int) > 1048576) = true := by simp; omega
  clear h0 h1 h2 h3 h4 h5 hop
  go_enter Try.func18, Try.ntmps18
  go_wp2_with (go_at_call 33; refine (has_yes _ A.net N.nl capl _ _ g0 (by omega) (by omega)).mono ?_; rintro e w' ⟨rfl, rfl⟩)
  go_ret
  exact ⟨rfl, rfl⟩
end Go.Proofs.Ytadalodjnbnjkaa
