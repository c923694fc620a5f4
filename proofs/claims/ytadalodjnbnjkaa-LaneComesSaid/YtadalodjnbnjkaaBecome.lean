/- becomes: what comes of a message that is sent, by the kind of its fate. -/
import Derived.Test.YtadalodjnbnjkaaPut
namespace Go.Proofs.Ytadalodjnbnjkaa
open Go.RowKit Go.Conc
variable {B : Nat}

theorem cm_get {L : List Cm} : ∀ {i j : Nat} {x : Cm} {u : Value}, L[i]? = some x → x.cells[j]? = some u → (cmCells L)[i * 4 + j]? = some u := by
  induction L with
  | nil => intro i j x u h; simp at h
  | cons y L ih =>
    intro i j x u h hj
    have hlen : y.cells.length = 4 := rfl
    show (y.cells ++ cmCells L)[i * 4 + j]? = some u
    rcases i with _ | i
    · obtain rfl := Option.some.inj h
      have : j < 4 := by
        have := (List.getElem?_eq_some_iff.1 hj).1
        rw [hlen] at this; exact this
      rw [Nat.zero_mul, Nat.zero_add, List.getElem?_append_left (by rw [hlen]; exact this)]
      exact hj
    · rw [List.getElem?_append_right (by rw [hlen]; omega), hlen, show (i + 1) * 4 + j - 4 = i * 4 + j by omega]
      exact ih h hj
theorem CmIn.of_row {w : World} {base : Nat} {v : Value} {L : List Cm} (h : w.ownsRow base 102 4 v L.length (cmCells L)) (hB : B ≤ base) (hs : B ≤ w.heap.size) : CmIn B w v L := by
  have hlt : ∀ b, v.ownBlock = some b → B ≤ b := fun b hb => by have := (h.lt b hb).1; omega
  rcases h.2 with ⟨rfl, hz⟩ | ⟨g, cap, cur, rfl, _⟩
  · refine ⟨none, 0, by rw [hz], fun i x hx => ?_, hs, hlt⟩
    have := (List.getElem?_eq_some_iff.1 hx).1
    omega
  · have hc := h.cells (g := g) rfl
    have e1 : ∀ i, (⟨g, 0, none⟩ : Addr).add i = ⟨g, i, none⟩ := fun i => by unfold Addr.add; split <;> simp_all
    refine ⟨_, cap, rfl, fun i x hx => ?_, hs, hlt⟩
    have get : ∀ j u, x.cells[j]? = some u → w.cell? ⟨g, i * 4 + j, none⟩ = some u := fun j u hj => by
      have := hc _ _ (cm_get hx hj)
      rw [e1] at this
      exact this
    exact ⟨g, rfl, get 0 _ rfl, get 1 _ rfl, get 2 _ rfl, get 3 _ rfl⟩
/-- put, in the words of CmIn. -/
theorem put_in (w : World) (v : Value) (L : List Cm) (c : Cm) (hin : CmIn B w v L) (hl : L.length ≤ 200) :
    Calls Try.prog 41 #[v, c.val] w fun e w' => ∃ v', e = .returned v' ∧ Below w.heap.size w w' ∧ CmIn B w' v' (putF L c) := by
  refine (put_any w v L c hin hl).mono ?_
  rintro e w' ⟨v', rfl, hb, ho⟩
  obtain ⟨_, _, _, _, hs, _⟩ := hin
  have := hb.size
  exact ⟨v', rfl, hb, CmIn.of_row ho (by omega) (by omega)⟩

theorem becomes_drop (w : World) (v : Value) (L : List Cm) (hin : CmIn B w v L) (g l x : Int) (a : Option Addr) (n c t number : Nat) :
    Calls Try.prog 27 #[v, .agg #[.int .i64 g, .int .i64 l, .slice a n c, .int .i64 1, .int .i64 x], .int .i64 t, .int .i64 number] w fun e w' => ∃ v', e = .returned v' ∧ Below w.heap.size w w' ∧ CmIn B w' v' L := by
  have HIN := Lib.hid hin
  obtain ⟨ad, cap, rfl, _⟩ := hin
  obtain ⟨m, hm⟩ : ∃ m, m = L.length := ⟨_, rfl⟩
  have HM := Lib.hid hm
  rw [← hm]
  clear hm
  go_enter Try.func27, Try.ntmps27
  go_wp2
  go_ret
  have hb : ∀ o o' : Obj, Below w.heap.size w ((w.alloc o).alloc o') := fun o o' => ((Below.refl _ _).alloc (Nat.le_refl _) _).alloc (by simp) _
  have hv : (Value.slice ad m cap) = .slice ad L.length cap := by rw [HM.out]
  exact ⟨_, rfl, hb _ _, by have := HIN.out.still (hb (.cells #[.int .i64 g, .int .i64 l, .slice a n c, .int .i64 1, .int .i64 x] 55) (.cells #[.int .i64 t, .int .i64 1, .int .i64 number, .slice a n c] 102)); rw [← hv] at this; exact this⟩

theorem becomes_deliver (w : World) (v : Value) (L : List Cm) (hin : CmIn B w v L) (hl : L.length ≤ 200) (g l x : Int) (a : Option Addr) (n c t number : Nat) (data : List Int) :
    Calls Try.prog 27 #[v, .agg #[.int .i64 g, .int .i64 l, .slice a n c, .int .i64 0, .int .i64 x], .int .i64 t, .int .i64 number] w fun e w' => ∃ v', e = .returned v' ∧ Below w.heap.size w w' ∧ CmIn B w' v' (putF L ⟨t, 1, number, data, a, n, c⟩) := by
  have HIN := Lib.hid hin
  have hput := fun W (hW : CmIn B W v L) => put_in W v L ⟨t, 1, number, data, a, n, c⟩ hW hl
  obtain ⟨ad, cap, rfl, _⟩ := hin
  obtain ⟨m, hm⟩ : ∃ m, m = L.length := ⟨_, rfl⟩
  rw [← hm] at hput ⊢
  have HP := Lib.hid hput
  have HM := Lib.hid hm
  clear hm hput
  have hb : ∀ o o' : Obj, Below w.heap.size w ((w.alloc o).alloc o') := fun o o' => ((Below.refl _ _).alloc (Nat.le_refl _) _).alloc (by simp) _
  have HB := Lib.hid hb
  clear hb
  go_enter Try.func27, Try.ntmps27
  go_wp2_with fail
  refine (HP.out _ (by have := HIN.out.still (HB.out (.cells #[.int .i64 g, .int .i64 l, .slice a n c, .int .i64 0, .int .i64 x] 55) (.cells #[.int .i64 t, .int .i64 1, .int .i64 number, .slice a n c] 102)); rw [← HM.out] at this; exact this)).mono ?_
  rintro e w' ⟨v', rfl, hb1, hc1⟩
  have HB1 := Lib.hid hb1
  have HC1 := Lib.hid hc1
  clear hb1 hc1
  go_wp2_with fail
  go_ret
  exact ⟨v', rfl, ((Mv.of_below (HB.out _ _)).trans (Mv.of_below HB1.out)).below, HC1.out⟩
end Go.Proofs.Ytadalodjnbnjkaa
