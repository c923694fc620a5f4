/- The document's net as plain data, and what memory must read as to be one. -/
import Derived.Test.YtadalodjnbnjkaaPlay10
namespace Go.Proofs.Ytadalodjnbnjkaa
open Go.RowKit Go.Conc

structure Rf where
  nl : Nat
  time : Nat
  fates : List (Int × Int)
  sent : Nat
  waits : Nat → List (List Int)
  shut : Nat → Bool
  lates : List Ml

inductive RTag where
  | net | fates | warr | sarr | lates | wl (i : Nat) | dat
abbrev ROwn := Nat → Option RTag
def ROwn.put (own : ROwn) (b : Nat) (t : RTag) : ROwn := fun k => if k = b then some t else own k
def ROwn.drop (own : ROwn) (b : Nat) : ROwn := fun k => if k = b then none else own k
theorem ROwn.put_same (own : ROwn) (b : Nat) (t : RTag) : own.put b t b = some t := by simp [ROwn.put]
theorem ROwn.put_other (own : ROwn) {b k : Nat} (t : RTag) (h : k ≠ b) : own.put b t k = own k := by simp [ROwn.put, h]
theorem ROwn.drop_other (own : ROwn) {b k : Nat} (h : k ≠ b) : own.drop b k = own k := by simp [ROwn.drop, h]
theorem ROwn.drop_same (own : ROwn) (b : Nat) : own.drop b b = none := by simp [ROwn.drop]
/-- What a call may turn: all that the net owns but the messages' bytes. -/
def ROwn.may (own : ROwn) : Nat → Prop := fun b => own b ≠ none ∧ own b ≠ some .dat
def RLies (w : World) (own : ROwn) : Prop := ∀ b t, own b = some t → b < w.heap.size
theorem RLies.none {w : World} {own : ROwn} (h : RLies w own) {b : Nat} (hb : w.heap.size ≤ b) : own b = none := by
  cases ho : own b with
  | none => rfl
  | some t => have := h b t ho; omega
theorem RLies.mono {w w' : World} {own : ROwn} (h : RLies w own) (hs : w.heap.size ≤ w'.heap.size) : RLies w' own := fun b t hb => Nat.lt_of_lt_of_le (h b t hb) hs
theorem RLies.put {w : World} {own : ROwn} (h : RLies w own) {b : Nat} (hb : b < w.heap.size) (t : RTag) : RLies w (own.put b t) := by
  intro k u hk
  by_cases e : k = b
  · omega
  · rw [ROwn.put_other _ _ e] at hk; exact h k u hk
theorem RLies.drop {w : World} {own : ROwn} (h : RLies w own) (b : Nat) : RLies w (own.drop b) := by
  intro k u hk
  by_cases e : k = b
  · rw [e, ROwn.drop_same] at hk; cases hk
  · rw [ROwn.drop_other _ e] at hk; exact h k u hk
/-- Nothing that is there becomes owned; bytes stay bytes. -/
def RGrows (n : Nat) (own own' : ROwn) : Prop := (∀ b, b < n → own b = none → own' b = none) ∧ ∀ b, own b = some .dat → own' b = some .dat
theorem RGrows.refl (n : Nat) (own : ROwn) : RGrows n own own := ⟨fun _ _ h => h, fun _ h => h⟩
theorem RGrows.trans {n m : Nat} {a b c : ROwn} (h : RGrows n a b) (k : RGrows m b c) (hn : n ≤ m) : RGrows n a c := ⟨fun i hi ha => k.1 i (by omega) (h.1 i hi ha), fun i hi => k.2 i (h.2 i hi)⟩

/-- A message's bytes. -/
def DatIs (w : World) (own : ROwn) (u : Value) (m : List Int) : Prop := ∃ a c, u = .slice a m.length c ∧ RowIn w a m.length m ∧ (m.length ≠ 0 → ∀ ad, a = some ad → own ad.block = some .dat)
/-- What waits on lane i. -/
def WlIs (w : World) (own : ROwn) (i : Nat) (v : Value) (ms : List (List Int)) : Prop :=
  (v = .slice none 0 0 ∧ ms = []) ∨ ∃ b off cap cur, v = .slice (some ⟨b, off, none⟩) ms.length cap ∧ own b = some (.wl i) ∧ w.heap[b]? = some (.cells cur 47 (0, 0)) ∧ ms.length ≤ cap ∧ off + cap ≤ cur.size ∧
    ∀ j m, ms[j]? = some m → ∃ u, cur[off + j]? = some u ∧ DatIs w own u m
def WarrIs (w : World) (own : ROwn) (wb nl cap : Nat) (waits : Nat → List (List Int)) : Prop :=
  own wb = some .warr ∧ nl ≤ cap ∧ ∃ cur, w.heap[wb]? = some (.cells cur 132 (0, 0)) ∧ ∀ i, i < nl → ∃ u, cur[i]? = some u ∧ WlIs w own i u (waits i)
def SarrIs (w : World) (own : ROwn) (sb nl cap : Nat) (shut : Nat → Bool) : Prop :=
  own sb = some .sarr ∧ nl ≤ cap ∧ ∃ cur, w.heap[sb]? = some (.cells cur 4 (0, 0)) ∧ ∀ i, i < nl → cur[i]? = some (.bool (shut i))
def RFatesIs (w : World) (own : ROwn) (v : Value) (F : List (Int × Int)) : Prop := w.ownsRow 0 96 2 v F.length (fateCells F) ∧ ∀ b, v.ownBlock = some b → own b = some .fates
def RLatesIs (w : World) (own : ROwn) (v : Value) (L : List Ml) : Prop :=
  ∃ X : List (Ml × Value), X.map Prod.fst = L ∧ w.ownsRow 0 136 3 v X.length (latCells X) ∧ (∀ b, v.ownBlock = some b → own b = some .lates) ∧ ∀ x ∈ X, DatIs w own x.2 x.1.msg
def RHeadIs (w : World) (own : ROwn) (G : Nat) (time : Nat) (fv : Value) (sent : Nat) (wb nl wcap sb scap : Nat) (lv : Value) : Prop :=
  own G = some .net ∧ w.heap[G]? = some (.cells #[.int .i64 time, fv, .int .i64 sent, .slice (some ⟨wb, 0, none⟩) nl wcap, .slice (some ⟨sb, 0, none⟩) nl scap, lv] 111 (0, 0))
/-- MEMORY READS AS THE DOCUMENT'S NET R at G. -/
def RefIs (w : World) (own : ROwn) (G : Nat) (R : Rf) : Prop :=
  RLies w own ∧ ∃ fv wb wcap sb scap lv, RHeadIs w own G R.time fv R.sent wb R.nl wcap sb scap lv ∧ RFatesIs w own fv R.fates ∧ WarrIs w own wb R.nl wcap R.waits ∧ SarrIs w own sb R.nl scap R.shut ∧ RLatesIs w own lv R.lates

theorem DatIs.keep {w w' : World} {own own' : ROwn} {u : Value} {m : List Int} (h : DatIs w own u m) (hk : ∀ b, own b = some .dat → own' b = some .dat ∧ w'.heap[b]? = w.heap[b]?) : DatIs w' own' u m := by
  obtain ⟨a, c, hu, hr, ho⟩ := h
  refine ⟨a, c, hu, ?_, fun h0 ad ha => (hk _ (ho h0 ad ha)).1⟩
  by_cases h0 : m.length = 0
  · exact ⟨hr.1, .inl h0⟩
  · exact hr.keep fun ad ha => (hk _ (ho h0 ad ha)).2
theorem WlIs.keep {w w' : World} {own own' : ROwn} {i : Nat} {v : Value} {ms : List (List Int)} (h : WlIs w own i v ms)
    (hk : ∀ b t, own b = some t → t = .dat ∨ t = .wl i → own' b = some t ∧ w'.heap[b]? = w.heap[b]?) : WlIs w' own' i v ms := by
  rcases h with h | ⟨b, off, cap, cur, h1, h2, h3, h4, h5, h6⟩
  · exact .inl h
  · have k := hk b _ h2 (.inr rfl)
    refine .inr ⟨b, off, cap, cur, h1, k.1, k.2.trans h3, h4, h5, fun j m hj => ?_⟩
    obtain ⟨u, q1, q2⟩ := h6 j m hj
    exact ⟨u, q1, q2.keep fun b hb => hk b _ hb (.inl rfl)⟩
theorem RFatesIs.keep {w w' : World} {own own' : ROwn} {v : Value} {F : List (Int × Int)} (h : RFatesIs w own v F)
    (hk : ∀ b, own b = some .fates → own' b = some .fates ∧ w'.heap[b]? = w.heap[b]?) : RFatesIs w' own' v F :=
  ⟨ownsRow_keep h.1 fun b hb => (hk b (h.2 b hb)).2, fun b hb => (hk b (h.2 b hb)).1⟩
theorem RLatesIs.keep {w w' : World} {own own' : ROwn} {v : Value} {L : List Ml} (h : RLatesIs w own v L)
    (hk : ∀ b t, own b = some t → t = .dat ∨ t = .lates → own' b = some t ∧ w'.heap[b]? = w.heap[b]?) : RLatesIs w' own' v L := by
  obtain ⟨X, h1, h2, h3, h4⟩ := h
  exact ⟨X, h1, ownsRow_keep h2 fun b hb => (hk b _ (h3 b hb) (.inr rfl)).2, fun b hb => (hk b _ (h3 b hb) (.inr rfl)).1, fun x hx => (h4 x hx).keep fun b hb => hk b _ hb (.inl rfl)⟩
theorem SarrIs.keep {w w' : World} {own own' : ROwn} {sb nl cap : Nat} {shut : Nat → Bool} (h : SarrIs w own sb nl cap shut)
    (hk : ∀ b, own b = some .sarr → own' b = some .sarr ∧ w'.heap[b]? = w.heap[b]?) : SarrIs w' own' sb nl cap shut := by
  obtain ⟨h1, h2, cur, h3, h4⟩ := h
  exact ⟨(hk _ h1).1, h2, cur, (hk _ h1).2.trans h3, h4⟩
theorem WarrIs.keep {w w' : World} {own own' : ROwn} {wb nl cap : Nat} {waits : Nat → List (List Int)} (h : WarrIs w own wb nl cap waits)
    (hk : ∀ b t, own b = some t → own' b = some t ∧ w'.heap[b]? = w.heap[b]?) : WarrIs w' own' wb nl cap waits := by
  obtain ⟨h1, h2, cur, h3, h4⟩ := h
  refine ⟨(hk _ _ h1).1, h2, cur, (hk _ _ h1).2.trans h3, fun i hi => ?_⟩
  obtain ⟨u, q1, q2⟩ := h4 i hi
  exact ⟨u, q1, q2.keep fun b t hb _ => hk b t hb⟩
/-- All of it stays. -/
theorem RefIs.keep {w w' : World} {own own' : ROwn} {G : Nat} {R : Rf} (h : RefIs w own G R) (hl : RLies w' own') (hk : ∀ b t, own b = some t → own' b = some t ∧ w'.heap[b]? = w.heap[b]?) : RefIs w' own' G R := by
  obtain ⟨h0, fv, wb, wcap, sb, scap, lv, h1, h2, h3, h4, h5⟩ := h
  exact ⟨hl, fv, wb, wcap, sb, scap, lv, ⟨(hk _ _ h1.1).1, (hk _ _ h1.1).2.trans h1.2⟩, h2.keep fun b hb => hk b _ hb, h3.keep hk, h4.keep fun b hb => hk b _ hb, h5.keep fun b t hb _ => hk b t hb⟩
theorem RefIs.still {w w' : World} {own : ROwn} {G : Nat} {R : Rf} (h : RefIs w own G R) (hm : Mv (fun _ => False) w w') : RefIs w' own G R :=
  h.keep (h.1.mono hm.size) fun b t hb => ⟨hb, hm.block b (h.1 b t hb) id⟩
/-- Bytes are taken in. -/
theorem RefIs.adopt {w : World} {own : ROwn} {G b : Nat} {R : Rf} (h : RefIs w own G R) (hb : own b = none) (hl : b < w.heap.size) : RefIs w (own.put b .dat) G R :=
  h.keep (h.1.put hl _) fun k t hk => ⟨by rw [ROwn.put_other _ _ (fun e => by subst e; rw [hb] at hk; cases hk)]; exact hk, rfl⟩

/-- What a call on the document's net leaves. -/
def RLeaves (w : World) (own : ROwn) (G : Nat) (R' : Rf) (e₀ e : Ending) (w' : World) : Prop := e = e₀ ∧ ∃ own', RefIs w' own' G R' ∧ Mv own.may w w' ∧ RGrows w.heap.size own own'

section
variable {w : World} {own : ROwn} {G : Nat} {R : Rf}
theorem is_any (h : RefIs w own G R) (x : Int) : Calls Try.prog 63 #[.pointer (some ⟨G, 0, none⟩), .int .i64 x] w fun e w' => e = .returned (.bool (decide (0 ≤ x ∧ x < R.nl))) ∧ w = w' := by
  obtain ⟨h0, fv, wb, wcap, sb, scap, lv, h1, _⟩ := h
  have c3 : w.cell? ⟨G, 3, none⟩ = some (.slice (some ⟨wb, 0, none⟩) R.nl wcap) := cell_of_heap h1.2 3 rfl
  clear h0 h1
  obtain ⟨nl, hnl⟩ : ∃ n, n = R.nl := ⟨_, rfl⟩
  rw [← hnl] at c3 ⊢
  clear hnl
  by_cases g0 : 0 ≤ x
  · by_cases g1 : x < nl
    · have e : decide (0 ≤ x ∧ x < nl) = true := by simp [g0, g1]
      rw [e]
      clear e
      go_enter Try.func63, Try.ntmps63
      go_wp2
      go_ret
      exact ⟨rfl, rfl⟩
    · have e : decide (0 ≤ x ∧ x < nl) = false := by simp; omega
      rw [e]
      clear e
      go_enter Try.func63, Try.ntmps63
      go_wp2
      go_ret
      exact ⟨rfl, rfl⟩
  · have e : decide (0 ≤ x ∧ x < nl) = false := by simp; omega
    have g0' : decide (0 ≤ x) = false := by simpa using g0
    rw [e]
    clear e g0
    go_enter Try.func63, Try.ntmps63
    go_wp2
    go_ret
    exact ⟨rfl, rfl⟩
theorem rNow_any (h : RefIs w own G R) : Calls Try.prog 53 #[.pointer (some ⟨G, 0, none⟩)] w fun e w' => e = .returned (.int .i64 R.time) ∧ w = w' := by
  obtain ⟨h0, fv, wb, wcap, sb, scap, lv, h1, _⟩ := h
  have c0 : w.cell? ⟨G, 0, none⟩ = some (.int .i64 R.time) := cell_of_heap h1.2 0 rfl
  clear h0 h1
  go_enter Try.func53, Try.ntmps53
  go_wp2
  go_ret
  exact ⟨rfl, rfl⟩
end
end Go.Proofs.Ytadalodjnbnjkaa

/- The document's New. -/
namespace Go.Proofs.Ytadalodjnbnjkaa
open Go.RowKit Go.Conc

theorem fits_plain (k n : Int) (w : World) (h : k = 0 ∨ k = 1) : Calls Try.prog 45 #[.agg #[.int .i64 k, .int .i64 n]] w (mayPost true w) := by
  rcases h with rfl | rfl
  all_goals
    go_enter Try.func45, Try.ntmps45
    go_wp2
    go_ret
    exact ⟨rfl, (Below.refl _ _).alloc (Nat.le_refl _) _⟩

theorem fits_late (k n : Int) (w : World) (h : k = 2 ∨ k = 3) (b : Bool) (hb : decide (0 ≤ n ∧ n ≤ 1000) = b) : Calls Try.prog 45 #[.agg #[.int .i64 k, .int .i64 n]] w (mayPost b w) := by
  by_cases h0 : 0 ≤ n
  · have d0 : decide (n ≥ 0) = true := by simpa using h0
    by_cases h1 : n ≤ 1000
    · have d1 : decide (n ≤ 1000) = true := by simpa using h1
      obtain rfl : b = true := by rw [← hb]; simp [h0, h1]
      clear hb
      rcases h with rfl | rfl
      all_goals
        go_enter Try.func45, Try.ntmps45
        go_wp2
        go_ret
        exact ⟨rfl, (Below.refl _ _).alloc (Nat.le_refl _) _⟩
    · have d1 : decide (n ≤ 1000) = false := by simpa using h1
      obtain rfl : b = false := by rw [← hb]; simp; omega
      clear hb
      rcases h with rfl | rfl
      all_goals
        go_enter Try.func45, Try.ntmps45
        go_wp2
        go_ret
        exact ⟨rfl, (Below.refl _ _).alloc (Nat.le_refl _) _⟩
  · have d0 : decide (n ≥ 0) = false := by simp; omega
    obtain rfl : b = false := by rw [← hb]; simp; omega
    clear hb
    rcases h with rfl | rfl
    all_goals
      go_enter Try.func45, Try.ntmps45
      go_wp2
      go_ret
      exact ⟨rfl, (Below.refl _ _).alloc (Nat.le_refl _) _⟩

theorem fits_cut (k n : Int) (w : World) (h : k = 4 ∨ k = 5) (b : Bool) (hb : decide (0 ≤ n ∧ n ≤ 1048576) = b) : Calls Try.prog 45 #[.agg #[.int .i64 k, .int .i64 n]] w (mayPost b w) := by
  by_cases h0 : 0 ≤ n
  · have d0 : decide (n ≥ 0) = true := by simpa using h0
    by_cases h1 : n ≤ 1048576
    · have d1 : decide (n ≤ 1048576) = true := by simpa using h1
      obtain rfl : b = true := by rw [← hb]; simp [h0, h1]
      clear hb
      rcases h with rfl | rfl
      all_goals
        go_enter Try.func45, Try.ntmps45
        go_wp2
        go_ret
        exact ⟨rfl, (Below.refl _ _).alloc (Nat.le_refl _) _⟩
    · have d1 : decide (n ≤ 1048576) = false := by simpa using h1
      obtain rfl : b = false := by rw [← hb]; simp; omega
      clear hb
      rcases h with rfl | rfl
      all_goals
        go_enter Try.func45, Try.ntmps45
        go_wp2
        go_ret
        exact ⟨rfl, (Below.refl _ _).alloc (Nat.le_refl _) _⟩
  · have d0 : decide (n ≥ 0) = false := by simp; omega
    obtain rfl : b = false := by rw [← hb]; simp; omega
    clear hb
    rcases h with rfl | rfl
    all_goals
      go_enter Try.func45, Try.ntmps45
      go_wp2
      go_ret
      exact ⟨rfl, (Below.refl _ _).alloc (Nat.le_refl _) _⟩

theorem fits_other (k n : Int) (w : World) (h : k < 0 ∨ 5 < k) : Calls Try.prog 45 #[.agg #[.int .i64 k, .int .i64 n]] w (mayPost false w) := by
  have e0 : (k == 0) = false := by simp; omega
  have e1 : (k == 1) = false := by simp; omega
  have e2 : (k == 2) = false := by simp; omega
  have e3 : (k == 3) = false := by simp; omega
  have e4 : (k == 4) = false := by simp; omega
  have e5 : (k == 5) = false := by simp; omega
  clear h
  go_enter Try.func45, Try.ntmps45
  go_wp2
  go_ret
  exact ⟨rfl, (Below.refl _ _).alloc (Nat.le_refl _) _⟩

theorem fits_any (k n : Int) (w : World) : Calls Try.prog 45 #[.agg #[.int .i64 k, .int .i64 n]] w (mayPost (mayB (k, n)) w) := by
  by_cases h01 : k = 0 ∨ k = 1
  · have : mayB (k, n) = true := decide_eq_true (by unfold mayF; simp only; omega)
    rw [this]; exact fits_plain k n w h01
  by_cases h23 : k = 2 ∨ k = 3
  · refine fits_late k n w h23 _ ?_
    unfold mayB mayF
    congr 1
    simp only [eq_iff_iff]
    omega
  by_cases h45 : k = 4 ∨ k = 5
  · refine fits_cut k n w h45 _ ?_
    unfold mayB mayF
    congr 1
    simp only [eq_iff_iff]
    omega
  · have : mayB (k, n) = false := decide_eq_false (by unfold mayF; simp only; omega)
    rw [this]; exact fits_other k n w (by omega)

theorem fits_yes (k n : Int) (w : World) (h : mayF (k, n)) : Calls Try.prog 45 #[.agg #[.int .i64 k, .int .i64 n]] w (mayPost true w) := by
  have := fits_any k n w
  rw [show mayB (k, n) = true from decide_eq_true h] at this
  exact this
theorem fits_no (k n : Int) (w : World) (h : ¬ mayF (k, n)) : Calls Try.prog 45 #[.agg #[.int .i64 k, .int .i64 n]] w (mayPost false w) := by
  have := fits_any k n w
  rw [show mayB (k, n) = false from decide_eq_false h] at this
  exact this
theorem Try.info132 : (Try.prog.info? 132).map (fun i => (i.zero, i.size, i.bytes)) = some (some (.slice none 0 0), 1, 24) := by kernel_rfl
theorem Try.info4 : (Try.prog.info? 4).map (fun i => (i.zero, i.size, i.bytes)) = some (some (.bool false), 1, 1) := by kernel_rfl

def ref0 (nl : Nat) (F : List (Int × Int)) : Rf := ⟨nl, 0, F, 0, fun _ => [], fun _ => false, []⟩
/-- What the document's New leaves where it gives a net. -/
def RNewed (w : World) (nl : Nat) (F : List (Int × Int)) (e : Ending) (w' : World) : Prop :=
  ∃ own G, e = .returned (.tuple #[.pointer (some ⟨G, 0, none⟩), .int .i64 0]) ∧ RefIs w' own G (ref0 nl F) ∧ Below w.heap.size w w' ∧ ∀ b, b < w.heap.size → own b = none
def RNone (w : World) (x : Int) (e : Ending) (w' : World) : Prop := e = .returned (.tuple #[.pointer none, .int .i64 x]) ∧ Below w.heap.size w w'

theorem rNew_lanes (w : World) (x : Int) (v : Value) (h : x < 1 ∨ 64 < x) : Calls Try.prog 32 #[.int .i64 x, v] w (RNone w 1) := by
  rcases h with h | h
  · have d1 : decide (x < 1) = true := by simpa using h
    go_enter Try.func32, Try.ntmps32
    go_wp2
    go_ret2
    exact ⟨rfl, Below.refl _ _⟩
  · have d1 : decide (x < 1) = false := by simp; omega
    have d2 : decide (x > 64) = true := by simpa using h
    go_enter Try.func32, Try.ntmps32
    go_wp2
    go_ret2
    exact ⟨rfl, Below.refl _ _⟩
theorem rNew_long (w : World) (x : Int) (a : Option Addr) (n c : Nat) (h : 1 ≤ x ∧ x ≤ 64) (hn : 65536 < n) : Calls Try.prog 32 #[.int .i64 x, .slice a n c] w (RNone w 2) := by
  obtain ⟨h1, h2⟩ := h
  have d1 : decide (x < 1) = false := by simp; omega
  have d2 : decide (x > 64) = false := by simp; omega
  have d3 : decide ((n : Int) > 65536) = true := by simp; omega
  have d4 : (65536 : Int) < n := by omega
  go_enter Try.func32, Try.ntmps32
  go_wp2
  go_ret2
  exact ⟨rfl, Below.refl _ _⟩

/-- The first loop of New: the fates. -/
def RNRel (w : World) (F : List (Int × Int)) (k : Nat) (wr : World) : Prop :=
  ∃ fv, Below w.heap.size w wr ∧ wr.heap[w.heap.size]? = some (.cells #[.int .i64 0, fv, .int .i64 0, .slice none 0 0, .slice none 0 0, .slice none 0 0] 111 (0, 0)) ∧
    wr.ownsRow (w.heap.size + 1) 96 2 fv k (fateCells (F.take k)) ∧ ∀ f ∈ F.take k, mayF f
/-- The second loop of New: the lanes. -/
def RN2 (w : World) (F : List (Int × Int)) (j m : Nat) (fv wv sv : Value) (wr : World) : Prop :=
  Below w.heap.size w wr ∧ wr.heap[w.heap.size]? = some (.cells #[.int .i64 0, fv, .int .i64 0, wv, sv, .slice none 0 0] 111 (0, 0)) ∧
    wr.ownsRow (w.heap.size + 1) 96 2 fv F.length (fateCells F) ∧ wr.ownsRow (w.heap.size + 1) 132 1 wv j (List.replicate j (.slice none 0 0)) ∧ wr.ownsRow (w.heap.size + 1) 4 1 sv m (List.replicate m (.bool false)) ∧
    (∀ b, fv.ownBlock = some b → wv.ownBlock ≠ some b ∧ sv.ownBlock ≠ some b) ∧ ∀ b, wv.ownBlock = some b → sv.ownBlock ≠ some b

theorem RNRel.step {w wr w3 : World} {F : List (Int × Int)} {k gg cap : Nat} {fv : Value} {o : Obj} (hb : Below w.heap.size w wr)
    (hh : wr.heap[w.heap.size]? = some (.cells #[.int .i64 0, fv, .int .i64 0, .slice none 0 0, .slice none 0 0, .slice none 0 0] 111 (0, 0)))
    (hrow : wr.ownsRow (w.heap.size + 1) 96 2 fv k (fateCells (F.take k))) (hmay : ∀ f ∈ F.take k, mayF f) (hk : k < F.length) (hm : mayF ((F.getD k (0, 0)).1, (F.getD k (0, 0)).2))
    (hgrow : ((wr.alloc o).drew).grownBy w3 fv.ownBlock)
    (hown : w3.ownsRow (w.heap.size + 1) 96 2 (.slice (some ⟨gg, 0, none⟩) (k + 1) cap) (k + 1) (fateCells (F.take k) ++ [.int .i64 (F.getD k (0, 0)).1, .int .i64 (F.getD k (0, 0)).2])) :
    RNRel w F (k + 1) (w3.setCell ⟨w.heap.size, 1, none⟩ (.slice (some ⟨gg, 0, none⟩) (k + 1) cap)) := by
  have hs := hb.size
  have hl := lt_of_heap hh
  have hne : fv.ownBlock ≠ some w.heap.size := fun e => by have := (hrow.lt _ e).1; omega
  have hgg := (hown.lt gg rfl).1
  have hb3 : Below w.heap.size w w3 := ((hb.alloc hs o).drew).grown hgrow (by simp [World.drew]; omega) (fun b hb => by have := (hrow.lt b hb).1; omega)
  have hh3 : w3.heap[w.heap.size]? = some (.cells #[.int .i64 0, fv, .int .i64 0, .slice none 0 0, .slice none 0 0, .slice none 0 0] 111 (0, 0)) :=
    (hgrow.block _ (by simp [World.drew]; omega) (Ne.symm hne)).trans ((Below.heap_alloc wr o _ hl).trans hh)
  refine ⟨.slice (some ⟨gg, 0, none⟩) (k + 1) cap, hb3.setCell (Nat.le_refl _) _, ?_, ?_, ?_⟩
  · rw [heap_setCell_same hh3]; simp
  · rw [fateCells_take hk]
    exact ownsRow_keep hown fun b hb => by simp [Value.ownBlock] at hb; subst hb; exact heap_setCell_other (by omega) _
  · intro f hf
    rw [List.take_succ_eq_append_getElem hk] at hf
    simp only [List.mem_append, List.mem_singleton] at hf
    rcases hf with hf | rfl
    · exact hmay f hf
    · rw [List.getD_eq_getElem?_getD, List.getElem?_eq_getElem hk] at hm
      exact hm
theorem RN2.start {w wr : World} {F : List (Int × Int)} (h : RNRel w F F.length wr) : ∃ fv wv sv, RN2 w F 0 0 fv wv sv wr := by
  obtain ⟨fv, h1, h2, h3, h4⟩ := h
  rw [List.take_length] at h3
  exact ⟨fv, _, _, h1, h2, h3, World.ownsRow_nil _ _ _ _, World.ownsRow_nil _ _ _ _, fun b hb => ⟨by simp [Value.ownBlock], by simp [Value.ownBlock]⟩, fun b hb => by simp [Value.ownBlock] at hb⟩
theorem RN2.waits {w wr w3 : World} {F : List (Int × Int)} {j m gg cap : Nat} {fv wv sv : Value} {o : Obj} (hb : Below w.heap.size w wr)
    (hh : wr.heap[w.heap.size]? = some (.cells #[.int .i64 0, fv, .int .i64 0, wv, sv, .slice none 0 0] 111 (0, 0)))
    (h3 : wr.ownsRow (w.heap.size + 1) 96 2 fv F.length (fateCells F)) (h4 : wr.ownsRow (w.heap.size + 1) 132 1 wv j (List.replicate j (.slice none 0 0))) (h5 : wr.ownsRow (w.heap.size + 1) 4 1 sv m (List.replicate m (.bool false)))
    (h6 : ∀ b, fv.ownBlock = some b → wv.ownBlock ≠ some b ∧ sv.ownBlock ≠ some b) (h7 : ∀ b, wv.ownBlock = some b → sv.ownBlock ≠ some b)
    (hgrow : (wr.alloc o).grownBy w3 wv.ownBlock) (hat : wv.ownBlock = some gg ∨ gg = wr.heap.size + 1)
    (hown : w3.ownsRow (w.heap.size + 1) 132 1 (.slice (some ⟨gg, 0, none⟩) (j + 1) cap) (j + 1) (List.replicate j (.slice none 0 0) ++ [.slice none 0 0])) :
    RN2 w F (j + 1) m fv (.slice (some ⟨gg, 0, none⟩) (j + 1) cap) sv (w3.setCell ⟨w.heap.size, 3, none⟩ (.slice (some ⟨gg, 0, none⟩) (j + 1) cap)) := by
  have hs := hb.size
  have hl := lt_of_heap hh
  have hne : wv.ownBlock ≠ some w.heap.size := fun e => by have := (h4.lt _ e).1; omega
  have hgg := (hown.lt gg rfl).1
  have hb3 : Below w.heap.size w w3 := (hb.alloc hs o).grown hgrow (by simp; omega) (fun b hb => by have := (h4.lt b hb).1; omega)
  have hold : ∀ b, b < wr.heap.size → wv.ownBlock ≠ some b → b ≠ w.heap.size → (w3.setCell ⟨w.heap.size, 3, none⟩ (.slice (some ⟨gg, 0, none⟩) (j + 1) cap)).heap[b]? = wr.heap[b]? := fun b h1 h2 h3 =>
    (heap_setCell_other h3 _).trans ((hgrow.block _ (by simp; omega) (Ne.symm h2)).trans (Below.heap_alloc wr o _ h1))
  have hh3 : w3.heap[w.heap.size]? = some (.cells #[.int .i64 0, fv, .int .i64 0, wv, sv, .slice none 0 0] 111 (0, 0)) :=
    (hgrow.block _ (by simp; omega) (Ne.symm hne)).trans ((Below.heap_alloc wr o _ hl).trans hh)
  refine ⟨hb3.setCell (Nat.le_refl _) _, ?_, ?_, ?_, ?_, fun b hb => ⟨fun e => ?_, (h6 b hb).2⟩, fun b hb e => ?_⟩
  · rw [heap_setCell_same hh3]; simp
  · exact ownsRow_keep h3 fun b hb => hold b (h3.lt b hb).2 (h6 b hb).1 (by have := (h3.lt b hb).1; omega)
  · rw [List.replicate_succ']
    exact ownsRow_keep hown fun b hb => by simp [Value.ownBlock] at hb; subst hb; exact heap_setCell_other (by omega) _
  · exact ownsRow_keep h5 fun b hb => hold b (h5.lt b hb).2 (fun e => h7 b e hb) (by have := (h5.lt b hb).1; omega)
  · have e : gg = b := by simpa [Value.ownBlock] using e
    subst e
    rcases hat with hat | hat
    · exact (h6 gg hb).1 hat
    · have := (h3.lt gg hb).2; omega
  · have e2 : gg = b := by simpa [Value.ownBlock] using hb
    subst e2
    rcases hat with hat | hat
    · exact h7 gg hat e
    · have := (h5.lt gg e).2; omega
theorem RN2.shut {w wr w3 : World} {F : List (Int × Int)} {j m gg cap : Nat} {fv wv sv : Value} {o : Obj} (hb : Below w.heap.size w wr)
    (hh : wr.heap[w.heap.size]? = some (.cells #[.int .i64 0, fv, .int .i64 0, wv, sv, .slice none 0 0] 111 (0, 0)))
    (h3 : wr.ownsRow (w.heap.size + 1) 96 2 fv F.length (fateCells F)) (h4 : wr.ownsRow (w.heap.size + 1) 132 1 wv j (List.replicate j (.slice none 0 0))) (h5 : wr.ownsRow (w.heap.size + 1) 4 1 sv m (List.replicate m (.bool false)))
    (h6 : ∀ b, fv.ownBlock = some b → wv.ownBlock ≠ some b ∧ sv.ownBlock ≠ some b) (h7 : ∀ b, wv.ownBlock = some b → sv.ownBlock ≠ some b)
    (hgrow : (wr.alloc o).grownBy w3 sv.ownBlock) (hat : sv.ownBlock = some gg ∨ gg = wr.heap.size + 1)
    (hown : w3.ownsRow (w.heap.size + 1) 4 1 (.slice (some ⟨gg, 0, none⟩) (m + 1) cap) (m + 1) (List.replicate m (.bool false) ++ [.bool false])) :
    RN2 w F j (m + 1) fv wv (.slice (some ⟨gg, 0, none⟩) (m + 1) cap) (w3.setCell ⟨w.heap.size, 4, none⟩ (.slice (some ⟨gg, 0, none⟩) (m + 1) cap)) := by
  have hs := hb.size
  have hl := lt_of_heap hh
  have hne : sv.ownBlock ≠ some w.heap.size := fun e => by have := (h5.lt _ e).1; omega
  have hgg := (hown.lt gg rfl).1
  have hb3 : Below w.heap.size w w3 := (hb.alloc hs o).grown hgrow (by simp; omega) (fun b hb => by have := (h5.lt b hb).1; omega)
  have hold : ∀ b, b < wr.heap.size → sv.ownBlock ≠ some b → b ≠ w.heap.size → (w3.setCell ⟨w.heap.size, 4, none⟩ (.slice (some ⟨gg, 0, none⟩) (m + 1) cap)).heap[b]? = wr.heap[b]? := fun b h1 h2 h3 =>
    (heap_setCell_other h3 _).trans ((hgrow.block _ (by simp; omega) (Ne.symm h2)).trans (Below.heap_alloc wr o _ h1))
  have hh3 : w3.heap[w.heap.size]? = some (.cells #[.int .i64 0, fv, .int .i64 0, wv, sv, .slice none 0 0] 111 (0, 0)) :=
    (hgrow.block _ (by simp; omega) (Ne.symm hne)).trans ((Below.heap_alloc wr o _ hl).trans hh)
  refine ⟨hb3.setCell (Nat.le_refl _) _, ?_, ?_, ?_, ?_, fun b hb => ⟨(h6 b hb).1, fun e => ?_⟩, fun b hb e => ?_⟩
  · rw [heap_setCell_same hh3]; simp
  · exact ownsRow_keep h3 fun b hb => hold b (h3.lt b hb).2 (h6 b hb).2 (by have := (h3.lt b hb).1; omega)
  · exact ownsRow_keep h4 fun b hb => hold b (h4.lt b hb).2 (fun e => h7 b hb e) (by have := (h4.lt b hb).1; omega)
  · rw [List.replicate_succ']
    exact ownsRow_keep hown fun b hb => by simp [Value.ownBlock] at hb; subst hb; exact heap_setCell_other (by omega) _
  · have e : gg = b := by simpa [Value.ownBlock] using e
    subst e
    rcases hat with hat | hat
    · exact (h6 gg hb).2 hat
    · have := (h3.lt gg hb).2; omega
  · have e2 : gg = b := by simpa [Value.ownBlock] using e
    subst e2
    rcases hat with hat | hat
    · exact h7 gg hb hat
    · have := (h4.lt gg hb).2; omega
theorem RN2.finish {w wr : World} {F : List (Int × Int)} {nl : Nat} {fv wv sv : Value} (h : RN2 w F nl nl fv wv sv wr) (hn : 0 < nl) : RNewed w nl F (.returned (.tuple #[.pointer (some ⟨w.heap.size, 0, none⟩), .int .i64 0])) wr := by
  obtain ⟨h1, h2, h3, h4, h5, h6, h7⟩ := h
  obtain ⟨wb, wcap, wcur, rfl, a1, a2, a3, a4, a5, a6⟩ := h4.2.resolve_left (fun h => by omega)
  obtain ⟨sb, scap, scur, rfl, b1, b2, b3, b4, b5, b6⟩ := h5.2.resolve_left (fun h => by omega)
  have hs := h1.size
  have hl := lt_of_heap h2
  have hws : wb ≠ sb := fun e => h7 wb rfl (by rw [e]; rfl)
  let own : ROwn := fun b => if b = w.heap.size then some .net else if b = wb then some .warr else if b = sb then some .sarr else if fv.ownBlock = some b then some .fates else none
  have e1 : own w.heap.size = some .net := if_pos rfl
  have e2 : own wb = some .warr := by show (if _ then _ else _) = _; rw [if_neg (by omega), if_pos rfl]
  have e3 : own sb = some .sarr := by show (if _ then _ else _) = _; rw [if_neg (by omega), if_neg (Ne.symm hws), if_pos rfl]
  have e4 : ∀ b, fv.ownBlock = some b → own b = some .fates := fun b hb => by
    show (if _ then _ else _) = _
    have q := (h3.lt b hb).1
    rw [if_neg (by omega), if_neg (fun e => (h6 b hb).1 (by rw [e]; rfl)), if_neg (fun e => (h6 b hb).2 (by rw [e]; rfl)), if_pos hb]
  refine ⟨own, w.heap.size, rfl, ⟨?_, fv, wb, wcap, sb, scap, .slice none 0 0, ⟨e1, h2⟩, ⟨ownsRow_base h3 (Nat.zero_le _), e4⟩, ⟨e2, a3, wcur, a2, fun i hi => ?_⟩, ⟨e3, b3, scur, b2, fun i hi => ?_⟩, ⟨[], rfl, World.ownsRow_nil _ _ _ _, fun b hb => by simp [Value.ownBlock] at hb, fun x hx => by simp at hx⟩⟩, h1, fun b hb => ?_⟩
  · intro b t hb
    have hb : (if b = w.heap.size then some RTag.net else if b = wb then some .warr else if b = sb then some .sarr else if fv.ownBlock = some b then some .fates else none) = some t := hb
    split at hb
    · omega
    · split at hb
      · subst_vars; exact lt_of_heap a2
      · split at hb
        · subst_vars; exact lt_of_heap b2
        · split at hb
          · rename_i hf; exact (h3.lt b hf).2
          · cases hb
  · have hi : i < nl := hi
    refine ⟨.slice none 0 0, ?_, .inl ⟨rfl, rfl⟩⟩
    have : (wcur.toList.take (nl * 1))[i]? = some (.slice none 0 0) := by rw [a6, List.getElem?_replicate, if_pos hi]
    rw [List.getElem?_take, if_pos (by omega)] at this
    simpa using this
  · have hi : i < nl := hi
    have : (scur.toList.take (nl * 1))[i]? = some (.bool false) := by rw [b6, List.getElem?_replicate, if_pos hi]
    rw [List.getElem?_take, if_pos (by omega)] at this
    show scur[i]? = some (.bool false)
    simpa using this
  · show (if _ then _ else _) = _
    rw [if_neg (by omega), if_neg (by omega), if_neg (by omega), if_neg (fun e => by have := (h3.lt b e).1; omega)]

theorem RNRel.calm {w wr w' : World} {F : List (Int × Int)} {k : Nat} (h : RNRel w F k wr) (hb : Below wr.heap.size wr w') : RNRel w F k w' := by
  obtain ⟨fv, h1, h2, h3, h4⟩ := h
  exact ⟨fv, ((Mv.of_below h1).trans (Mv.of_below hb)).below, (hb.block _ (lt_of_heap h2)).trans h2, ownsRow_below h3 hb, h4⟩

/-- What the document's New leaves, of fates that are few enough. -/
def RNewP (w : World) (nl : Nat) (F : List (Int × Int)) (e : Ending) (w' : World) : Prop := ((∀ f ∈ F, mayF f) ∧ RNewed w nl F e w') ∨ ((∃ f ∈ F, ¬ mayF f) ∧ RNone w 1 e w')

set_option maxRecDepth 100000 in
set_option maxHeartbeats 3200000 in
theorem rNew_any (w : World) (nl : Nat) (a : Option Addr) (n c : Nat) (F : List (Int × Int)) (h1 : 1 ≤ nl) (h2 : nl ≤ 64) (hn : n ≤ 65536) (hF : FateRow w a n F) :
    Calls Try.prog 32 #[.int .i64 nl, .slice a n c] w (RNewP w nl F) := by
  obtain ⟨i0, hi0, hz0, hz1, hz2⟩ := info_parts Try.info96
  obtain ⟨i1, hi1, hy0, hy1, hy2⟩ := info_parts Try.info132
  obtain ⟨i2, hi2, hx0, hx1, hx2⟩ := info_parts Try.info4
  have d1 : decide ((nl : Int) < 1) = false := by simp; omega
  have d2 : decide ((nl : Int) > 64) = false := by simp; omega
  have d3 : decide ((n : Int) > 65536) = false := by simp; omega
  have b1 : (1 : Int) ≤ nl := by omega
  have b2 : (nl : Int) ≤ 64 := by omega
  have b3 : (n : Int) ≤ 65536 := by omega
  have HF := Lib.hid hF
  clear hF
  go_enter Try.func32, Try.ntmps32
  go_wp2_with fail
  go_loopw [7] (fun i wr => ∃ k : Nat, k ≤ n ∧ i = .int .i64 k ∧ RNRel w F k wr) (fun i _ => n - (intOf i).toNat)
  case atStart => exact ⟨0, Nat.zero_le _, rfl, .slice none 0 0, (Below.refl _ _).alloc (Nat.le_refl _) _, heap_alloc_new w _, World.ownsRow_nil _ _ _ _, fun f hf => by simp at hf⟩
  case round =>
    obtain ⟨k, hk, rfl, hrel⟩ := hrel
    have HR := Lib.hid hrel
    clear hrel
    by_cases hlt : k < n
    · have hkk : (k : Int) < n := by omega
      have hk0 : (0 : Int) ≤ k := by omega
      obtain ⟨b, off, rfl, hc⟩ := HF.out.2.resolve_left (by omega)
      obtain ⟨fv, hb, hh, hrow, hmay⟩ := HR.out
      obtain ⟨q1, q2⟩ := hc k hlt
      have hbl : b < w.heap.size := World.block_lt_of_cell? _ _ q1
      have e : ∀ j, wr.cell? ⟨b, j, none⟩ = w.cell? ⟨b, j, none⟩ := fun j => hb.cell (p := ⟨b, j, none⟩) hbl
      have c0 := (e _).trans q1
      have c1 := (e _).trans q2
      have HFL : Hid (k < F.length) := by rw [HF.out.1]; exact hlt
      have HQ := Lib.hid (And.intro q1 q2)
      obtain ⟨x, hx⟩ : ∃ x, x = (F.getD k (0, 0)).1 := ⟨_, rfl⟩
      obtain ⟨y, hy⟩ : ∃ y, y = (F.getD k (0, 0)).2 := ⟨_, rfl⟩
      rw [← hx] at c0
      rw [← hy] at c1
      have HX := Lib.hid hx
      have HY := Lib.hid hy
      clear e q1 q2 hc hx hy hb hh hrow hmay
      by_cases hm : mayF (x, y)
      · have HM := Lib.hid hm
        go_wp2_with fail
        refine (fits_yes x y wr hm).mono ?_
        rintro r w1 ⟨rfl, hbw⟩
        have hR1 := HR.out.calm hbw
        have HR1 := Lib.hid hR1
        obtain ⟨fv1, hb1, hh1, hrow1, hmay1⟩ := hR1
        have hs1 := hb1.size
        have e : ∀ j, w1.cell? ⟨b, j, none⟩ = w.cell? ⟨b, j, none⟩ := fun j => hb1.cell (p := ⟨b, j, none⟩) hbl
        have d0 := (e _).trans HQ.out.1
        have d1 := (e _).trans HQ.out.2
        rw [← HX.out] at d0
        rw [← HY.out] at d1
        have g1 : w1.cell? ⟨w.heap.size, 1, none⟩ = some fv1 := cell_of_heap hh1 1 rfl
        have gf : w1.frozen? ⟨w.heap.size, 1, none⟩ = false := free_of_heap hh1 1
        have hl1 := lt_of_heap hh1
        have hne1 : b ≠ w1.heap.size := by omega
        have hlt2 : w.heap.size < w1.heap.size + 1 := by omega
        have hfne : fv1.ownBlock ≠ some w.heap.size := fun e => by have := (hrow1.lt _ e).1; omega
        have HB1 := Lib.hid hb1
        have HH1 := Lib.hid hh1
        have HROW := Lib.hid hrow1
        have HMAY := Lib.hid hmay1
        have HNE := Lib.hid hfne
        clear e hbw hb1 hh1 hrow1 hmay1 c0 c1 hm hfne
        go_wp2_with fail
        go_region_law (refine step_append_lies _ (by rfl) _ _ _ (by rfl) (w.heap.size + 1) 96 i0 _ 2 16 Try.underlying91 hi0 hz0 hz1 hz2 rfl (by omega) fv1 k (fateCells (F.take k)) (by rfl) ((HROW.out.alloc _).drew) ⟨w1.heap.size, 0, none⟩ 1 1 [.int .i64 x, .int .i64 y] (by rfl) (by rfl) (World.news_of_block (cs := #[.int .i64 x, .int .i64 y]) (t := 96) (fr := (0, 0)) (heap_alloc_new w1 _)) (by simp [Value.oneCell']) (by omega) (by unfold maxLen; omega) (by omega) (by simp; omega) (w1.heap.size + 1) (by simp) ?_; intro gg cap w3 hown1 hgrow hat hlt3; have hB : w3.heap[w.heap.size]? = w1.heap[w.heap.size]? := (hgrow.block _ (by simp; omega) (Ne.symm HNE.out)).trans (Below.heap_alloc w1 _ _ hl1); have q0 : w3.cell? ⟨w.heap.size, 1, none⟩ = some fv1 := (World.cell?_of_block (w := w1) hB).trans g1; have qf : w3.frozen? ⟨w.heap.size, 1, none⟩ = false := (World.frozen?_of_block (w := w1) hB).trans gf; clear hB)
        all_goals
          have hR := RNRel.step HB1.out HH1.out HROW.out HMAY.out HFL.out (by rw [← HX.out, ← HY.out]; exact HM.out) hgrow (by rw [← HX.out, ← HY.out]; exact hown1)
          have HR2 := Lib.hid hR
          clear hown1 hgrow hat hlt3 hR
          go_wp2
          go_roundw
          case rel => exact ⟨k + 1, by omega, by go_num, HR2.out⟩
          case measure => simp [intOf]; omega
      · have HM := Lib.hid hm
        go_wp2_with fail
        refine (fits_no x y wr hm).mono ?_
        rintro r w1 ⟨rfl, hbw⟩
        have HBW := Lib.hid hbw
        clear hbw hm c0 c1
        go_wp2_with fail
        go_ret2
        obtain ⟨fv1, hb1, _⟩ := HR.out
        refine .inr ⟨⟨(x, y), ?_, HM.out⟩, rfl, ((Mv.of_below hb1).trans (Mv.of_below HBW.out)).below⟩
        have hl := HFL.out
        have : (x, y) = F[k] := by rw [HX.out, HY.out, List.getD_eq_getElem?_getD, List.getElem?_eq_getElem hl]; rfl
        rw [this]
        exact List.getElem_mem hl
    · have hge : (n : Int) ≤ k := by omega
      obtain rfl : k = n := by omega
      have hR := HR.out
      have e : k = F.length := HF.out.1.symm
      rw [e] at hR
      have hmay : ∀ f ∈ F, mayF f := by
        obtain ⟨_, _, _, _, hm⟩ := hR
        rw [List.take_length] at hm
        exact hm
      have HMAY := Lib.hid hmay
      have HR0 := Lib.hid (RN2.start hR)
      clear hR e hmay HR
      go_wp2_with fail
      go_loopw [9] (fun i wr => ∃ j : Nat, j ≤ nl ∧ i = .int .i64 j ∧ ∃ fv wv sv, RN2 w F j j fv wv sv wr) (fun i _ => nl - (intOf i).toNat)
      case atStart => exact ⟨0, Nat.zero_le _, rfl, HR0.out⟩
      case round =>
        obtain ⟨j, hj, rfl, fv, wv, sv, hrel⟩ := hrel
        have HR := Lib.hid hrel
        by_cases hlt2 : j < nl
        · have hjj : (j : Int) < nl := by omega
          obtain ⟨a1, a2, a3, a4, a5, a6, a7⟩ := hrel
          have hs1 := a1.size
          have g3 : wr.cell? ⟨w.heap.size, 3, none⟩ = some wv := cell_of_heap a2 3 rfl
          have hl1 := lt_of_heap a2
          have hwne : wv.ownBlock ≠ some w.heap.size := fun e => by have := (a4.lt _ e).1; omega
          have A1 := Lib.hid a1
          have A2 := Lib.hid a2
          have A3 := Lib.hid a3
          have A4 := Lib.hid a4
          have A5 := Lib.hid a5
          have A6 := Lib.hid a6
          have A7 := Lib.hid a7
          have HWNE := Lib.hid hwne
          clear a1 a2 a3 a4 a5 a6 a7 hwne
          go_wp2_with (first
            | (at_builtin; refine wpList_append_lies _ rfl _ _ 108 rfl (w.heap.size + 1) 132 i1 _ 1 24 Try.underlying108 hi1 hy0 hy1 hy2 rfl (by decide) _ j (List.replicate j (.slice none 0 0)) rfl (A4.out.alloc _) ⟨wr.heap.size, 0, none⟩ 1 1 [.slice none 0 0] rfl rfl (World.news_of_block (cs := #[.slice none 0 0]) (t := 132) (fr := (0, 0)) (heap_alloc_new wr _)) (by intro u hu; simp at hu; rcases hu with rfl; rfl) (by omega) (by unfold maxLen; omega) (by omega) (by simp; omega) (wr.heap.size + 1) (by simp) ?_; intro gg cp w3 hown1 hgrow hat hlt3; have hB : w3.heap[w.heap.size]? = wr.heap[w.heap.size]? := (hgrow.block _ (by simp; omega) (Ne.symm HWNE.out)).trans (Below.heap_alloc wr _ _ hl1); have q0 : w3.cell? ⟨w.heap.size, 3, none⟩ = some wv := (World.cell?_of_block (w := wr) hB).trans g3; have qf : w3.frozen? ⟨w.heap.size, 3, none⟩ = false := (World.frozen?_of_block (w := wr) hB).trans (free_of_heap A2.out 3); have hR2 := RN2.waits A1.out A2.out A3.out A4.out A5.out A6.out A7.out hgrow hat hown1; have HR2 := Lib.hid hR2; have hz4 : w3.cell? ⟨w.heap.size, 4, none⟩ = some sv := (World.cell?_of_block (w := wr) hB).trans (cell_of_heap A2.out 4 rfl); have hz5 : w3.frozen? ⟨w.heap.size, 4, none⟩ = false := (World.frozen?_of_block (w := wr) hB).trans (free_of_heap A2.out 4); have hR4 := hR2.2.2.2.2.1; have hns : sv.ownBlock ≠ some w.heap.size := (fun e => by have := (hR4.lt _ e).1; omega); have HNS := Lib.hid hns; have hnew : ((w3.setCell ⟨w.heap.size, 3, none⟩ (.slice (some ⟨gg, 0, none⟩) (j + 1) cp)).alloc (.cells #[.bool false] 4)).heap[w3.heap.size]? = some (.cells #[.bool false] 4 (0, 0)) := (by have := heap_alloc_new (w3.setCell ⟨w.heap.size, 3, none⟩ (.slice (some ⟨gg, 0, none⟩) (j + 1) cp)) (.cells #[.bool false] 4); simpa using this); have HNEW := Lib.hid hnew; have hs3 := hgrow.size; simp at hs3; clear hB hR2 hR4 hns hnew hown1 hgrow hat)
            | (at_builtin; refine wpList_append_lies _ rfl _ _ 68 rfl (w.heap.size + 1) 4 i2 _ 1 1 Try.underlying68 hi2 hx0 hx1 hx2 rfl (by decide) _ j (List.replicate j (.bool false)) rfl (HR2.out.2.2.2.2.1.alloc _) ⟨w3.heap.size, 0, none⟩ 1 1 [.bool false] rfl rfl (World.news_of_block (cs := #[.bool false]) (t := 4) (fr := (0, 0)) HNEW.out) (by intro u hu; simp at hu; rcases hu with rfl; rfl) (by omega) (by unfold maxLen; omega) (by omega) (by simp; omega) (w3.heap.size + 1) (by simp) ?_; intro gg2 cp2 w4 hown2 hgrow2 hat2 hlt4; have hB : w4.heap[w.heap.size]? = (w3.setCell ⟨w.heap.size, 3, none⟩ (.slice (some ⟨gg, 0, none⟩) (j + 1) cp)).heap[w.heap.size]? := (hgrow2.block _ (by simp; omega) (Ne.symm HNS.out)).trans (Below.heap_alloc _ _ _ (by simp; omega)); have q1 : w4.cell? ⟨w.heap.size, 4, none⟩ = some sv := (World.cell?_of_block (a := ⟨w.heap.size, 4, none⟩) hB).trans (cell_of_heap HR2.out.2.1 4 rfl); have qf1 : w4.frozen? ⟨w.heap.size, 4, none⟩ = false := (World.frozen?_of_block (a := ⟨w.heap.size, 4, none⟩) hB).trans (free_of_heap HR2.out.2.1 4); have hat2' : sv.ownBlock = some gg2 ∨ gg2 = (w3.setCell ⟨w.heap.size, 3, none⟩ (.slice (some ⟨gg, 0, none⟩) (j + 1) cp)).heap.size + 1 := hat2.imp id (fun h => h.trans (by simp)); have hR3 := RN2.shut HR2.out.1 HR2.out.2.1 HR2.out.2.2.1 HR2.out.2.2.2.1 HR2.out.2.2.2.2.1 HR2.out.2.2.2.2.2.1 HR2.out.2.2.2.2.2.2 hgrow2 hat2' hown2; have HR3 := Lib.hid hR3; clear hB hR3 hown2 hgrow2 hat2 hat2'))
          go_roundw
          case rel => exact ⟨j + 1, by omega, by go_num, _, _, _, HR3.out⟩
          case measure => simp [intOf]; omega
        · have hge2 : (nl : Int) ≤ j := by omega
          clear hrel
          go_wp2
          go_ret2
          obtain rfl : j = nl := by omega
          exact .inl ⟨HMAY.out, HR.out.finish (by omega)⟩
end Go.Proofs.Ytadalodjnbnjkaa
