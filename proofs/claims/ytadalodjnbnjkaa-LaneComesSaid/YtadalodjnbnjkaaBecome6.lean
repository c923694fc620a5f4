/- becomes, of every message that may be. -/
import Derived.Test.YtadalodjnbnjkaaBecome5
import Derived.Test.YtadalodjnbnjkaaDue
namespace Go.Proofs.Ytadalodjnbnjkaa
open Go.RowKit Go.Conc
variable {B : Nat}

/-- Where the bytes of a message that must come lie: in a block below n0, or from B on. -/
def CmOk (B n0 : Nat) (w : World) (x : Cm) : Prop := x.n = x.data.length ∧ RowIn w x.a x.n x.data ∧ x.data.length ≤ 4096 ∧ (x.n ≠ 0 → ∀ ad, x.a = some ad → ad.block < n0 ∨ B ≤ ad.block)
def DueIn (B n0 : Nat) (w : World) (v : Value) (L : List Cm) : Prop := CmIn B w v L ∧ ∀ x ∈ L, CmOk B n0 w x
theorem CmOk.still {n0 : Nat} {w w' : World} {x : Cm} (h : CmOk B n0 w x) (hb : Below w.heap.size w w') : CmOk B n0 w' x := ⟨h.1, h.2.1.still hb, h.2.2⟩
theorem DueIn.still {n0 : Nat} {w w' : World} {v : Value} {L : List Cm} (h : DueIn B n0 w v L) (hb : Below w.heap.size w w') : DueIn B n0 w' v L :=
  ⟨h.1.still hb, fun x hx => (h.2 x hx).still hb⟩
theorem mem_foldl_put {c y : Cm} : ∀ {L acc : List Cm} {d : Bool}, y ∈ (L.foldl (putStep c) (acc, d)).1 → y ∈ acc ∨ y = c ∨ y ∈ L
  | [], acc, d, h => .inl h
  | x :: L, acc, d, h => by
    rw [List.foldl_cons] at h
    unfold putStep at h
    split at h
    · rcases mem_foldl_put h with h | h | h
      · simp at h
        rcases h with h | rfl | rfl
        · exact .inl h
        · exact .inr (.inl rfl)
        · exact .inr (.inr (by simp))
      · exact .inr (.inl h)
      · exact .inr (.inr (by simp [h]))
    · rcases mem_foldl_put h with h | h | h
      · simp at h
        rcases h with h | rfl
        · exact .inl h
        · exact .inr (.inr (by simp))
      · exact .inr (.inl h)
      · exact .inr (.inr (by simp [h]))
theorem mem_putF {L : List Cm} {c y : Cm} (h : y ∈ putF L c) : y = c ∨ y ∈ L := by
  unfold putF putK at h
  rw [List.take_length] at h
  split at h
  · rcases mem_foldl_put h with h | h | h
    · simp at h
    · exact .inl h
    · exact .inr h
  · simp only [List.mem_append, List.mem_singleton] at h
    rcases h with h | h
    · rcases mem_foldl_put h with h | h | h
      · simp at h
      · exact .inl h
      · exact .inr h
    · exact .inl h
theorem DueIn.put {n0 : Nat} {w w' : World} {v v' : Value} {L : List Cm} {c : Cm} (h : DueIn B n0 w v L) (hb : Below w.heap.size w w') (hc : CmOk B n0 w' c) (hin : CmIn B w' v' (putF L c)) : DueIn B n0 w' v' (putF L c) :=
  ⟨hin, fun x hx => by
    rcases mem_putF hx with rfl | hx
    · exact hc
    · exact (h.2 x hx).still hb⟩

theorem RowIn.take {w : World} {a : Option Addr} {n x : Nat} {l : List Int} (h : RowIn w a n l) (hx : x ≤ n) : RowIn w a x (l.take x) := by
  refine ⟨by rw [List.length_take, h.1]; omega, ?_⟩
  by_cases h0 : x = 0
  · exact .inl h0
  · obtain ⟨b, off, rfl, hc⟩ := h.2.resolve_left (by omega)
    refine .inr ⟨b, off, rfl, fun j hj => ?_⟩
    rw [hc j (by omega), List.getD_eq_getElem?_getD, List.getD_eq_getElem?_getD, List.getElem?_take, if_pos hj]

theorem bec0 (L : List Cm) (t num : Nat) (m : List Int) (x : Int) (a : Option Addr) (n c : Nat) : becF L t num m (0, x) a n c = putF L ⟨t, 1, num, m, a, n, c⟩ := by simp [becF]
theorem bec1 (L : List Cm) (t num : Nat) (m : List Int) (x : Int) (a : Option Addr) (n c : Nat) : becF L t num m (1, x) a n c = L := by simp [becF]
theorem bec2 (L : List Cm) (t num : Nat) (m : List Int) (x : Nat) (a : Option Addr) (n c : Nat) : becF L t num m (2, (x : Int)) a n c = putF (putF L ⟨t, 1, num, m, a, n, c⟩) (lateC t x num m a n c) := by simp [becF]
theorem bec3 (L : List Cm) (t num : Nat) (m : List Int) (x : Nat) (a : Option Addr) (n c : Nat) : becF L t num m (3, (x : Int)) a n c = putF L (lateC t x num m a n c) := by simp [becF]
theorem bec4 (L : List Cm) (t num : Nat) (m : List Int) (x : Nat) (a : Option Addr) (n c : Nat) : becF L t num m (4, (x : Int)) a n c = putF L ⟨t, 1, num, m.take x, a, n, c⟩ := by simp [becF]
theorem bec5 (L : List Cm) (t num : Nat) (m : List Int) (x : Nat) (a : Option Addr) (n c : Nat) : becF L t num m (5, (x : Int)) a n c = putF L ⟨t, 1, num, if x < m.length then spoilt m x else m, a, n, c⟩ := by simp [becF]

/-- What becomes leaves. -/
def Became (B n0 : Nat) (w : World) (L : List Cm) (t number : Nat) (m : List Int) (f : Int × Int) (e : Ending) (w' : World) : Prop :=
  ∃ v' a' n' c', e = .returned v' ∧ Below w.heap.size w w' ∧ DueIn B n0 w' v' (becF L t number m f a' n' c')

theorem becomes_any {n0 : Nat} (w : World) (v : Value) (L : List Cm) (h : DueIn B n0 w v L) (hl : L.length ≤ 100) (s : Snt) (hs : TameS s) (a : Option Addr) (c : Nat) (hc : s.data.length ≤ c)
    (hr : RowIn w a s.data.length s.data) (ha : s.data.length ≠ 0 → ∀ ad, a = some ad → ad.block < n0 ∨ B ≤ ad.block) (hf40 : s.fate.2 ≤ 40) (t number : Nat) (ht : t ≤ 100000) :
    Calls Try.prog 27 #[v, .agg #[.int .i64 s.gap, .int .i64 s.lane, .slice a s.data.length c, .int .i64 s.fate.1, .int .i64 s.fate.2], .int .i64 t, .int .i64 number] w (Became B n0 w L t number s.data s.fate) := by
  obtain ⟨gap, lane, m, k, x⟩ := s
  obtain ⟨_, _, hm, hk⟩ := hs
  simp only at hm hc hr hf40 ha ⊢
  have hB : B ≤ w.heap.size := by obtain ⟨_, _, _, _, hs, _⟩ := h.1; exact hs
  have ok : ∀ (w' : World), Below w.heap.size w w' → ∀ at' d, CmOk B n0 w' ⟨at', d, number, m, a, m.length, c⟩ := fun w' hb at' d => ⟨rfl, hr.still hb, hm, ha⟩
  have same : ∀ {e : Ending} {w' : World}, (∃ v', e = .returned v' ∧ Below w.heap.size w w' ∧ CmIn B w' v' (putF L ⟨t, 1, number, m, a, m.length, c⟩)) → ∀ f, (∀ a n c, becF L t number m f a n c = putF L ⟨t, 1, number, m, a, n, c⟩) → Became B n0 w L t number m f e w' := by
    rintro e w' ⟨v', rfl, hb, hin⟩ f hf
    refine ⟨v', a, m.length, c, rfl, hb, ?_⟩
    rw [hf]
    exact h.put hb (ok w' hb _ _) hin
  rcases hk with hk | hk | ⟨hk, hx0, _⟩ | ⟨hk, hx0, _⟩
  · obtain rfl : k = 0 := hk
    refine (becomes_deliver w v L h.1 (by omega) gap lane x a m.length c t number m).mono fun e w' hh => same hh _ (fun a n c => bec0 L t number m x a n c)
  · obtain rfl : k = 1 := hk
    refine (becomes_drop w v L h.1 gap lane x a m.length c t number).mono ?_
    rintro e w' ⟨v', rfl, hb, hin⟩
    refine ⟨v', a, 0, 0, rfl, hb, ?_⟩
    rw [bec1]
    exact ⟨hin, fun y hy => (h.2 y hy).still hb⟩
  · simp only at hx0 hk
    obtain ⟨x, rfl⟩ : ∃ y : Nat, x = (y : Int) := ⟨x.toNat, by omega⟩
    rcases hk with rfl | rfl
    · refine (becomes_double w v L h.1 (by omega) gap lane x a m.length c t number m ht (by omega)).mono ?_
      rintro e w' ⟨v', rfl, hb, hin⟩
      refine ⟨v', a, m.length, c, rfl, hb, ?_⟩
      rw [bec2]
      refine ⟨hin, fun y hy => ?_⟩
      rcases mem_putF hy with rfl | hy
      · exact ok w' hb _ _
      · rcases mem_putF hy with rfl | hy
        · exact ok w' hb _ _
        · exact (h.2 y hy).still hb
    · refine (becomes_delay w v L h.1 (by omega) gap lane x a m.length c t number m ht (by omega)).mono ?_
      rintro e w' ⟨v', rfl, hb, hin⟩
      refine ⟨v', a, m.length, c, rfl, hb, ?_⟩
      rw [bec3]
      exact h.put hb (ok w' hb _ _) hin
  · simp only at hx0 hk
    obtain ⟨x, rfl⟩ : ∃ y : Nat, x = (y : Int) := ⟨x.toNat, by omega⟩
    by_cases hx : x < m.length
    · obtain ⟨b, off, rfl, _⟩ := hr.2.resolve_left (by omega)
      rcases hk with rfl | rfl
      · refine (becomes_cut w v L h.1 (by omega) gap lane x ⟨b, off, none⟩ m.length c t number (m.take x) hx hc).mono ?_
        rintro e w' ⟨v', rfl, hb, hin⟩
        refine ⟨v', some ⟨b, off, none⟩, x, c, rfl, hb, ?_⟩
        rw [bec4]
        exact h.put hb ⟨by show x = (m.take x).length; rw [List.length_take]; omega, (hr.take (x := x) (by omega)).still hb, by show (m.take x).length ≤ 4096; rw [List.length_take]; omega, fun _ => ha (by show m.length ≠ 0; omega)⟩ hin
      · refine (becomes_spoil w v L h.1 (by omega) gap lane x ⟨b, off, none⟩ m.length c t number m hr hm hx).mono ?_
        rintro e w' ⟨v', gg, cc, rfl, hb, hin, hgg, hrow⟩
        refine ⟨v', some ⟨gg, 0, none⟩, m.length, cc, rfl, hb, ?_⟩
        rw [bec5, if_pos hx]
        exact h.put hb ⟨by show m.length = (spoilt m x).length; unfold spoilt; rw [List.length_set], hrow, by show (spoilt m x).length ≤ 4096; unfold spoilt; rw [List.length_set]; exact hm, fun _ ad had => by cases had; right; show B ≤ gg; omega⟩ hin
    · refine (becomes_same w v L h.1 (by omega) gap lane k hk x a m.length c t number m (by omega)).mono fun e w' hh => ?_
      rcases hk with rfl | rfl
      · exact same hh _ (fun a n c => by rw [bec4, List.take_of_length_le (by omega)])
      · exact same hh _ (fun a n c => by rw [bec5, if_neg hx])
end Go.Proofs.Ytadalodjnbnjkaa
