/- short, lent, same: bytes that are read, copied, compared. -/
import Derived.Test.YtadalodjnbnjkaaLaw0
namespace Go.Proofs.Ytadalodjnbnjkaa
open Go.RowKit Go.Conc

/-- The slice reads l. -/
def RowIn (w : World) (a : Option Addr) (n : Nat) (l : List Int) : Prop :=
  l.length = n ∧ (n = 0 ∨ ∃ b off, a = some ⟨b, off, none⟩ ∧ ∀ j, j < n → w.cell? ⟨b, off + j, none⟩ = some (.int .u8 (l.getD j 0)))
theorem RowIn.still {w w' : World} {a : Option Addr} {n : Nat} {l : List Int} (h : RowIn w a n l) (hb : Below w.heap.size w w') : RowIn w' a n l := by
  refine ⟨h.1, h.2.imp id ?_⟩
  rintro ⟨b, off, h1, h2⟩
  refine ⟨b, off, h1, fun j hj => ?_⟩
  have := h2 j hj
  rw [hb.cell (p := ⟨b, off + j, none⟩) (World.block_lt_of_cell? w _ this)]
  exact this
theorem RowIn.of_msg {w : World} {g : Nat} {v : Value} {l : List Int} (h : MsgAt w g v l) : ∃ c, v = .slice (some ⟨g, 0, none⟩) l.length c ∧ RowIn w (some ⟨g, 0, none⟩) l.length l := by
  obtain ⟨c, cur, rfl, _⟩ := id h
  exact ⟨c, rfl, rfl, .inr ⟨g, 0, rfl, fun j hj => by have := cell_msg h hj; simpa using this⟩⟩

theorem short_le (w : World) (a : Option Addr) (n c : Nat) (h : n ≤ 4096) :
    Calls Try.prog 23 #[.slice a n c] w fun e w' => e = .returned (.slice a n c) ∧ w = w' := by
  have d : decide ((n : Int) > 4096) = false := by simp; omega
  have d2 : (n : Int) ≤ 4096 := by omega
  go_enter Try.func23, Try.ntmps23
  go_wp2
  go_ret
  exact ⟨rfl, rfl⟩
theorem short_gt (w : World) (ad : Addr) (n c : Nat) (h : 4096 < n) (hc : n ≤ c) :
    Calls Try.prog 23 #[.slice (some ad) n c] w fun e w' => e = .returned (.slice (some ad) 4096 c) ∧ w = w' := by
  have d : decide ((n : Int) > 4096) = true := by simp; omega
  have d2 : (4096 : Int) < n := by omega
  have d3 : (4096 : Int) ≤ c := by omega
  go_enter Try.func23, Try.ntmps23
  go_wp2
  go_ret
  exact ⟨rfl, rfl⟩

/-- What lent leaves: a new block, the bytes, 200 marks behind them. -/
def Lent (w : World) (l : List Int) (n : Nat) (e : Ending) (w' : World) : Prop :=
  ∃ g cur, e = .returned (.slice (some ⟨g, 0, none⟩) (n + 200) (n + 200)) ∧ w.heap.size ≤ g ∧ Below w.heap.size w w' ∧ w'.heap[g]? = some (.cells cur 5 (0, 0)) ∧
    cur.size = n + 200 ∧ (∀ j, j < n → cur[j]? = some (.int .u8 (l.getD j 0))) ∧ ∀ j, n ≤ j → j < n + 200 → cur[j]? = some (.int .u8 199)

def LentRel (w : World) (l : List Int) (n g i k : Nat) (wr : World) : Prop :=
  ∃ cur, Below w.heap.size w wr ∧ wr.heap[g]? = some (.cells cur 5 (0, 0)) ∧ cur.size = n + 200 ∧ (∀ j, j < i → cur[j]? = some (.int .u8 (l.getD j 0))) ∧ ∀ j, n ≤ j → j < k → cur[j]? = some (.int .u8 199)

theorem LentRel.byte {w wr : World} {l : List Int} {n g i : Nat} (h : LentRel w l n g i n wr) (hi : i < n) (hg : w.heap.size ≤ g) : LentRel w l n g (i + 1) n (wr.setCell ⟨g, i, none⟩ (.int .u8 (l.getD i 0))) := by
  obtain ⟨cur, h1, h2, h3, h4, h5⟩ := h
  refine ⟨cur.setIfInBounds i (.int .u8 (l.getD i 0)), h1.setCell hg _, heap_setCell_same h2 _, by simpa using h3, fun j hj => ?_, fun j hj hk => by omega⟩
  by_cases e : j = i
  · subst e; rw [Array.getElem?_setIfInBounds_self, if_pos (by omega)]
  · rw [Array.getElem?_setIfInBounds_ne (Ne.symm e)]; exact h4 j (by omega)
theorem LentRel.mark {w wr : World} {l : List Int} {n g k : Nat} (h : LentRel w l n g n k wr) (hk : n ≤ k) (hk2 : k < n + 200) (hg : w.heap.size ≤ g) : LentRel w l n g n (k + 1) (wr.setCell ⟨g, k, none⟩ (.int .u8 199)) := by
  obtain ⟨cur, h1, h2, h3, h4, h5⟩ := h
  refine ⟨cur.setIfInBounds k (.int .u8 199), h1.setCell hg _, heap_setCell_same h2 _, by simpa using h3, fun j hj => ?_, fun j hj hk' => ?_⟩
  · rw [Array.getElem?_setIfInBounds_ne (by omega)]; exact h4 j hj
  · by_cases e : j = k
    · subst e; rw [Array.getElem?_setIfInBounds_self, if_pos (by omega)]
    · rw [Array.getElem?_setIfInBounds_ne (Ne.symm e)]; exact h5 j hj (by omega)
theorem LentRel.old {w wr : World} {l : List Int} {n g i k j : Nat} (h : LentRel w l n g i k wr) (hj : j < n + 200) : ∃ v, wr.cell? ⟨g, j, none⟩ = some v ∧ wr.frozen? ⟨g, j, none⟩ = false := by
  obtain ⟨cur, h1, h2, h3, h4, h5⟩ := h
  exact ⟨_, cell_of_heap h2 j (Array.getElem?_eq_getElem (by omega)), free_of_heap h2 j⟩

set_option maxHeartbeats 1600000 in
theorem lent_any (w : World) (a : Option Addr) (n c : Nat) (l : List Int) (h : RowIn w a n l) (hsz : n ≤ 1099511627776) :
    Calls Try.prog 24 #[.slice a n c] w (Lent w l n) := by
  obtain ⟨i0, hi, hz0, hz1, hz2⟩ := info_parts Try.info5
  have HR := Lib.hid h
  clear h
  have b1 : (n : Int) ≤ 1099511627776 := by omega
  go_enter Try.func24, Try.ntmps24
  go_wp2_with (at_make; refine wpList_make_full _ rfl _ _ 47 rfl w.heap.size 5 i0 _ 1 Try.underlying47 hi hz0 hz1 .i64 .i64 ((n : Int) + 200) ((n : Int) + 200) (n + 200) rfl rfl (by omega) (by omega) (by rw [hz2]; omega) (by unfold maxLen; omega) (Nat.le_refl _) ?_)
  intro w1 hown hgrow
  have hS : LentRel w l n w.heap.size 0 n w1 := by
    obtain ⟨g, cap, cur, hv, hb, hg, h1, h2, h3, h4⟩ := hown.2.resolve_left (fun h => by cases h.1)
    cases hv
    exact ⟨cur, (Below.refl _ _).grown hgrow (Nat.le_refl _) (fun k hk => by cases hk), hg, by omega, fun j hj => by omega, fun j hj hk => by omega⟩
  have HS := Lib.hid hS
  clear hown hgrow hS hi hz0 hz1 hz2
  go_wp2_with fail
  go_loopw [4] (fun i wr => ∃ k : Nat, k ≤ n ∧ i = .int .i64 k ∧ LentRel w l n w.heap.size k n wr) (fun i _ => n - (intOf i).toNat)
  case atStart => exact ⟨0, Nat.zero_le _, rfl, HS.out⟩
  case round =>
    obtain ⟨k, hk, rfl, hrel⟩ := hrel
    have HQ := Lib.hid hrel
    clear hrel
    by_cases hlt : k < n
    · obtain ⟨b, off, ha, hc⟩ := (HR.out.still (id HQ.out : LentRel w l n w.heap.size k n _).choose_spec.1).2.resolve_left (by omega)
      subst ha
      have hck := hc k hlt
      obtain ⟨v0, hv0, hf0⟩ := LentRel.old HQ.out (j := k) (by omega)
      have hkk : (k : Int) < n := by omega
      have hkk2 : (k : Int) < (n : Int) + 200 := by omega
      obtain ⟨x, hx⟩ : ∃ x, x = l.getD k 0 := ⟨_, rfl⟩
      rw [← hx] at hck
      have HX := Lib.hid hx
      clear hc hx
      go_wp2
      have hR := LentRel.byte HQ.out hlt (Nat.le_refl _)
      rw [← HX.out] at hR
      have HRR := Lib.hid hR
      go_roundw
      case rel => exact ⟨k + 1, by omega, by go_num, HRR.out⟩
      case measure => simp [intOf]; omega
    · have hge : (n : Int) ≤ k := by omega
      obtain rfl : k = n := by omega
      clear hlt
      go_wp2_with fail
      go_loopw [5] (fun i wr => ∃ j : Nat, k ≤ j ∧ j ≤ k + 200 ∧ i = .int .i64 j ∧ LentRel w l k w.heap.size k j wr) (fun i _ => k + 200 - (intOf i).toNat)
      case atStart => exact ⟨k, Nat.le_refl _, by omega, rfl, HQ.out⟩
      case round =>
        obtain ⟨j, hj1, hj2, rfl, hrel⟩ := hrel
        have HQ2 := Lib.hid hrel
        clear hrel
        by_cases hlt : j < k + 200
        · obtain ⟨v0, hv0, hf0⟩ := LentRel.old HQ2.out (j := j) hlt
          have hjj : (j : Int) < (k : Int) + 200 := by omega
          have hj0 : (0 : Int) ≤ j := by omega
          go_wp2
          have HRR := Lib.hid (LentRel.mark HQ2.out hj1 hlt (Nat.le_refl _))
          go_roundw
          case rel => exact ⟨j + 1, by omega, by omega, by go_num, HRR.out⟩
          case measure => simp [intOf]; omega
        · have hjj : ¬ (j : Int) < (k : Int) + 200 := by omega
          obtain rfl : j = k + 200 := by omega
          go_wp2
          go_ret
          obtain ⟨cur, q1, q2, q3, q4, q5⟩ := HQ2.out
          exact ⟨w.heap.size, cur, rfl, Nat.le_refl _, q1, q2, q3, q4, q5⟩
end Go.Proofs.Ytadalodjnbnjkaa
