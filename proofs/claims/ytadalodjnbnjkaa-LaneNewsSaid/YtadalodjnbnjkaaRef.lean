/- The document's net as plain data, and what memory must read as to be one. -/
import Derived.Test.YtadalodjnbnjkaaFates
namespace Go.Proofs.Ytadalodjnbnjkaa
open Go.RowKit Go.Conc

structure Rf where
  nl : Nat
  time : Nat
  fates : List (Int × Int)
  sent : Nat
  waits : Nat → List (List Int)
  shut : Nat → Bool
  lates : List Ml

inductive RTag where
  | net | fates | warr | sarr | lates | wl (i : Nat) | dat
abbrev ROwn := Nat → Option RTag
def ROwn.put (own : ROwn) (b : Nat) (t : RTag) : ROwn := fun k => if k = b then some t else own k
def ROwn.drop (own : ROwn) (b : Nat) : ROwn := fun k => if k = b then none else own k
theorem ROwn.put_same (own : ROwn) (b : Nat) (t : RTag) : own.put b t b = some t := by simp [ROwn.put]
theorem ROwn.put_other (own : ROwn) {b k : Nat} (t : RTag) (h : k ≠ b) : own.put b t k = own k := by simp [ROwn.put, h]
theorem ROwn.drop_other (own : ROwn) {b k : Nat} (h : k ≠ b) : own.drop b k = own k := by simp [ROwn.drop, h]
theorem ROwn.drop_same (own : ROwn) (b : Nat) : own.drop b b = none := by simp [ROwn.drop]
/-- What a call may turn: all that the net owns but the messages' bytes. -/
def ROwn.may (own : ROwn) : Nat → Prop := fun b => own b ≠ none ∧ own b ≠ some .dat
def RLies (w : World) (own : ROwn) : Prop := ∀ b t, own b = some t → b < w.heap.size
theorem RLies.none {w : World} {own : ROwn} (h : RLies w own) {b : Nat} (hb : w.heap.size ≤ b) : own b = none := by
  cases ho : own b with
  | none => rfl
  | some t => have := h b t ho; omega
theorem RLies.mono {w w' : World} {own : ROwn} (h : RLies w own) (hs : w.heap.size ≤ w'.heap.size) : RLies w' own := fun b t hb => Nat.lt_of_lt_of_le (h b t hb) hs
theorem RLies.put {w : World} {own : ROwn} (h : RLies w own) {b : Nat} (hb : b < w.heap.size) (t : RTag) : RLies w (own.put b t) := by
  intro k u hk
  by_cases e : k = b
  · omega
  · rw [ROwn.put_other _ _ e] at hk; exact h k u hk
theorem RLies.drop {w : World} {own : ROwn} (h : RLies w own) (b : Nat) : RLies w (own.drop b) := by
  intro k u hk
  by_cases e : k = b
  · rw [e, ROwn.drop_same] at hk; cases hk
  · rw [ROwn.drop_other _ e] at hk; exact h k u hk
/-- Nothing that is there becomes owned; bytes stay bytes. -/
def RGrows (n : Nat) (own own' : ROwn) : Prop := (∀ b, b < n → own b = none → own' b = none) ∧ ∀ b, own b = some .dat → own' b = some .dat
theorem RGrows.refl (n : Nat) (own : ROwn) : RGrows n own own := ⟨fun _ _ h => h, fun _ h => h⟩
theorem RGrows.trans {n m : Nat} {a b c : ROwn} (h : RGrows n a b) (k : RGrows m b c) (hn : n ≤ m) : RGrows n a c := ⟨fun i hi ha => k.1 i (by omega) (h.1 i hi ha), fun i hi => k.2 i (h.2 i hi)⟩

/-- A message's bytes. -/
def DatIs (w : World) (own : ROwn) (u : Value) (m : List Int) : Prop := ∃ a c, u = .slice a m.length c ∧ RowIn w a m.length m ∧ (m.length ≠ 0 → ∀ ad, a = some ad → own ad.block = some .dat)
/-- What waits on lane i. -/
def WlIs (w : World) (own : ROwn) (i : Nat) (v : Value) (ms : List (List Int)) : Prop :=
  (v = .slice none 0 0 ∧ ms = []) ∨ ∃ b off cap cur, v = .slice (some ⟨b, off, none⟩) ms.length cap ∧ own b = some (.wl i) ∧ w.heap[b]? = some (.cells cur 47 (0, 0)) ∧ ms.length ≤ cap ∧ off + cap ≤ cur.size ∧
    ∀ j m, ms[j]? = some m → ∃ u, cur[off + j]? = some u ∧ DatIs w own u m
def WarrIs (w : World) (own : ROwn) (wb nl cap : Nat) (waits : Nat → List (List Int)) : Prop :=
  own wb = some .warr ∧ nl ≤ cap ∧ ∃ cur, w.heap[wb]? = some (.cells cur 132 (0, 0)) ∧ ∀ i, i < nl → ∃ u, cur[i]? = some u ∧ WlIs w own i u (waits i)
def SarrIs (w : World) (own : ROwn) (sb nl cap : Nat) (shut : Nat → Bool) : Prop :=
  own sb = some .sarr ∧ nl ≤ cap ∧ ∃ cur, w.heap[sb]? = some (.cells cur 4 (0, 0)) ∧ ∀ i, i < nl → cur[i]? = some (.bool (shut i))
def RFatesIs (w : World) (own : ROwn) (v : Value) (F : List (Int × Int)) : Prop := w.ownsRow 0 96 2 v F.length (fateCells F) ∧ ∀ b, v.ownBlock = some b → own b = some .fates
def RLatesIs (w : World) (own : ROwn) (v : Value) (L : List Ml) : Prop :=
  ∃ X : List (Ml × Value), X.map Prod.fst = L ∧ w.ownsRow 0 136 3 v X.length (latCells X) ∧ (∀ b, v.ownBlock = some b → own b = some .lates) ∧ ∀ x ∈ X, DatIs w own x.2 x.1.msg
def RHeadIs (w : World) (own : ROwn) (G : Nat) (time : Nat) (fv : Value) (sent : Nat) (wb nl wcap sb scap : Nat) (lv : Value) : Prop :=
  own G = some .net ∧ w.heap[G]? = some (.cells #[.int .i64 time, fv, .int .i64 sent, .slice (some ⟨wb, 0, none⟩) nl wcap, .slice (some ⟨sb, 0, none⟩) nl scap, lv] 111 (0, 0))
/-- MEMORY READS AS THE DOCUMENT'S NET R at G. -/
def RefIs (w : World) (own : ROwn) (G : Nat) (R : Rf) : Prop :=
  RLies w own ∧ ∃ fv wb wcap sb scap lv, RHeadIs w own G R.time fv R.sent wb R.nl wcap sb scap lv ∧ RFatesIs w own fv R.fates ∧ WarrIs w own wb R.nl wcap R.waits ∧ SarrIs w own sb R.nl scap R.shut ∧ RLatesIs w own lv R.lates

theorem DatIs.keep {w w' : World} {own own' : ROwn} {u : Value} {m : List Int} (h : DatIs w own u m) (hk : ∀ b, own b = some .dat → own' b = some .dat ∧ w'.heap[b]? = w.heap[b]?) : DatIs w' own' u m := by
  obtain ⟨a, c, hu, hr, ho⟩ := h
  refine ⟨a, c, hu, ?_, fun h0 ad ha => (hk _ (ho h0 ad ha)).1⟩
  by_cases h0 : m.length = 0
  · exact ⟨hr.1, .inl h0⟩
  · exact hr.keep fun ad ha => (hk _ (ho h0 ad ha)).2
theorem WlIs.keep {w w' : World} {own own' : ROwn} {i : Nat} {v : Value} {ms : List (List Int)} (h : WlIs w own i v ms)
    (hk : ∀ b t, own b = some t → t = .dat ∨ t = .wl i → own' b = some t ∧ w'.heap[b]? = w.heap[b]?) : WlIs w' own' i v ms := by
  rcases h with h | ⟨b, off, cap, cur, h1, h2, h3, h4, h5, h6⟩
  · exact .inl h
  · have k := hk b _ h2 (.inr rfl)
    refine .inr ⟨b, off, cap, cur, h1, k.1, k.2.trans h3, h4, h5, fun j m hj => ?_⟩
    obtain ⟨u, q1, q2⟩ := h6 j m hj
    exact ⟨u, q1, q2.keep fun b hb => hk b _ hb (.inl rfl)⟩
theorem RFatesIs.keep {w w' : World} {own own' : ROwn} {v : Value} {F : List (Int × Int)} (h : RFatesIs w own v F)
    (hk : ∀ b, own b = some .fates → own' b = some .fates ∧ w'.heap[b]? = w.heap[b]?) : RFatesIs w' own' v F :=
  ⟨ownsRow_keep h.1 fun b hb => (hk b (h.2 b hb)).2, fun b hb => (hk b (h.2 b hb)).1⟩
theorem RLatesIs.keep {w w' : World} {own own' : ROwn} {v : Value} {L : List Ml} (h : RLatesIs w own v L)
    (hk : ∀ b t, own b = some t → t = .dat ∨ t = .lates → own' b = some t ∧ w'.heap[b]? = w.heap[b]?) : RLatesIs w' own' v L := by
  obtain ⟨X, h1, h2, h3, h4⟩ := h
  exact ⟨X, h1, ownsRow_keep h2 fun b hb => (hk b _ (h3 b hb) (.inr rfl)).2, fun b hb => (hk b _ (h3 b hb) (.inr rfl)).1, fun x hx => (h4 x hx).keep fun b hb => hk b _ hb (.inl rfl)⟩
theorem SarrIs.keep {w w' : World} {own own' : ROwn} {sb nl cap : Nat} {shut : Nat → Bool} (h : SarrIs w own sb nl cap shut)
    (hk : ∀ b, own b = some .sarr → own' b = some .sarr ∧ w'.heap[b]? = w.heap[b]?) : SarrIs w' own' sb nl cap shut := by
  obtain ⟨h1, h2, cur, h3, h4⟩ := h
  exact ⟨(hk _ h1).1, h2, cur, (hk _ h1).2.trans h3, h4⟩
theorem WarrIs.keep {w w' : World} {own own' : ROwn} {wb nl cap : Nat} {waits : Nat → List (List Int)} (h : WarrIs w own wb nl cap waits)
    (hk : ∀ b t, own b = some t → own' b = some t ∧ w'.heap[b]? = w.heap[b]?) : WarrIs w' own' wb nl cap waits := by
  obtain ⟨h1, h2, cur, h3, h4⟩ := h
  refine ⟨(hk _ _ h1).1, h2, cur, (hk _ _ h1).2.trans h3, fun i hi => ?_⟩
  obtain ⟨u, q1, q2⟩ := h4 i hi
  exact ⟨u, q1, q2.keep fun b t hb _ => hk b t hb⟩
/-- All of it stays. -/
theorem RefIs.keep {w w' : World} {own own' : ROwn} {G : Nat} {R : Rf} (h : RefIs w own G R) (hl : RLies w' own') (hk : ∀ b t, own b = some t → own' b = some t ∧ w'.heap[b]? = w.heap[b]?) : RefIs w' own' G R := by
  obtain ⟨h0, fv, wb, wcap, sb, scap, lv, h1, h2, h3, h4, h5⟩ := h
  exact ⟨hl, fv, wb, wcap, sb, scap, lv, ⟨(hk _ _ h1.1).1, (hk _ _ h1.1).2.trans h1.2⟩, h2.keep fun b hb => hk b _ hb, h3.keep hk, h4.keep fun b hb => hk b _ hb, h5.keep fun b t hb _ => hk b t hb⟩
theorem RefIs.still {w w' : World} {own : ROwn} {G : Nat} {R : Rf} (h : RefIs w own G R) (hm : Mv (fun _ => False) w w') : RefIs w' own G R :=
  h.keep (h.1.mono hm.size) fun b t hb => ⟨hb, hm.block b (h.1 b t hb) id⟩
/-- Bytes are taken in. -/
theorem RefIs.adopt {w : World} {own : ROwn} {G b : Nat} {R : Rf} (h : RefIs w own G R) (hb : own b = none) (hl : b < w.heap.size) : RefIs w (own.put b .dat) G R :=
  h.keep (h.1.put hl _) fun k t hk => ⟨by rw [ROwn.put_other _ _ (fun e => by subst e; rw [hb] at hk; cases hk)]; exact hk, rfl⟩

/-- What a call on the document's net leaves. -/
def RLeaves (w : World) (own : ROwn) (G : Nat) (R' : Rf) (e₀ e : Ending) (w' : World) : Prop := e = e₀ ∧ ∃ own', RefIs w' own' G R' ∧ Mv own.may w w' ∧ RGrows w.heap.size own own'

section
variable {w : World} {own : ROwn} {G : Nat} {R : Rf}
theorem is_any (h : RefIs w own G R) (x : Int) : Calls Try.prog 63 #[.pointer (some ⟨G, 0, none⟩), .int .i64 x] w fun e w' => e = .returned (.bool (decide (0 ≤ x ∧ x < R.nl))) ∧ w = w' := by
  obtain ⟨h0, fv, wb, wcap, sb, scap, lv, h1, _⟩ := h
  have c3 : w.cell? ⟨G, 3, none⟩ = some (.slice (some ⟨wb, 0, none⟩) R.nl wcap) := cell_of_heap h1.2 3 rfl
  clear h0 h1
  obtain ⟨nl, hnl⟩ : ∃ n, n = R.nl := ⟨_, rfl⟩
  rw [← hnl] at c3 ⊢
  clear hnl
  by_cases g0 : 0 ≤ x
  · by_cases g1 : x < nl
    · have e : decide (0 ≤ x ∧ x < nl) = true := by simp [g0, g1]
      rw [e]
      clear e
      go_enter Try.func63, Try.ntmps63
      go_wp2
      go_ret
      exact ⟨rfl, rfl⟩
    · have e : decide (0 ≤ x ∧ x < nl) = false := by simp; omega
      rw [e]
      clear e
      go_enter Try.func63, Try.ntmps63
      go_wp2
      go_ret
      exact ⟨rfl, rfl⟩
  · have e : decide (0 ≤ x ∧ x < nl) = false := by simp; omega
    have g0' : decide (0 ≤ x) = false := by simpa using g0
    rw [e]
    clear e g0
    go_enter Try.func63, Try.ntmps63
    go_wp2
    go_ret
    exact ⟨rfl, rfl⟩
theorem rNow_any (h : RefIs w own G R) : Calls Try.prog 53 #[.pointer (some ⟨G, 0, none⟩)] w fun e w' => e = .returned (.int .i64 R.time) ∧ w = w' := by
  obtain ⟨h0, fv, wb, wcap, sb, scap, lv, h1, _⟩ := h
  have c0 : w.cell? ⟨G, 0, none⟩ = some (.int .i64 R.time) := cell_of_heap h1.2 0 rfl
  clear h0 h1
  go_enter Try.func53, Try.ntmps53
  go_wp2
  go_ret
  exact ⟨rfl, rfl⟩
end
end Go.Proofs.Ytadalodjnbnjkaa
