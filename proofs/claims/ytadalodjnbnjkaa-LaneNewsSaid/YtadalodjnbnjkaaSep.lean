/- Memory in parts: two nets, the document's two, the book, what is in hand. -/
import Derived.Test.YtadalodjnbnjkaaRefNew
namespace Go.Proofs.Ytadalodjnbnjkaa
open Go.RowKit Go.Conc

/-- A part of memory: what it asks of a world and of the blocks that are its own. -/
structure Res where
  holds : World → (Nat → Prop) → Prop
  loc : ∀ {w w' : World} {F : Nat → Prop}, holds w F → (∀ b, F b → b < w.heap.size) → w.heap.size ≤ w'.heap.size → (∀ b, F b → w'.heap[b]? = w.heap[b]?) → holds w' F
inductive Part where
  | net (k : Nat) | ref (k : Nat) | book | hand

/-- The parts lie apart, all of them in memory that has come since w0; what was there in w0 stays. -/
structure SepF (w0 w : World) (Φ : Part → Res) (F : Part → Nat → Prop) : Prop where
  mv : Mv (fun _ => False) w0 w
  hold : ∀ p, (Φ p).holds w (F p)
  within : ∀ p b, F p b → w0.heap.size ≤ b ∧ b < w.heap.size
  apart : ∀ p q b, F p b → F q b → p = q
/-- Some parts I turn. -/
theorem SepF.go {w0 w w' : World} {Φ Φ' : Part → Res} {F F' : Part → Nat → Prop} (h : SepF w0 w Φ F) (I : Part → Prop) (hs : ∀ p, ¬ I p → Φ' p = Φ p ∧ F' p = F p) (hh : ∀ p, I p → (Φ' p).holds w' (F' p))
    (hm : Mv (fun b => ∃ p, I p ∧ F p b) w w') (hsub : ∀ p b, I p → F' p b → b < w'.heap.size ∧ ((∃ q, I q ∧ F q b) ∨ w.heap.size ≤ b)) (hd : ∀ p q b, I p → I q → F' p b → F' q b → p = q) : SepF w0 w' Φ' F' := by
  have hsz := h.mv.size
  refine ⟨h.mv.trans' hm (fun b hb ⟨p, hp, hf⟩ => by have := (h.within p b hf).1; omega), fun p => ?_, fun p b hb => ?_, fun p q b hp hq => ?_⟩
  · by_cases hI : I p
    · exact hh p hI
    · obtain ⟨e1, e2⟩ := hs p hI
      rw [e1, e2]
      exact (Φ p).loc (h.hold p) (fun b hb => (h.within p b hb).2) hm.size (fun b hb => hm.block b (h.within p b hb).2 (fun ⟨q, hq, hf⟩ => hI (by rw [h.apart p q b hb hf]; exact hq)))
  · by_cases hI : I p
    · obtain ⟨h1, h2⟩ := hsub p b hI hb
      refine ⟨?_, h1⟩
      rcases h2 with ⟨q, _, hf⟩ | h2
      · exact (h.within q b hf).1
      · omega
    · rw [(hs p hI).2] at hb
      have := h.within p b hb
      exact ⟨this.1, Nat.lt_of_lt_of_le this.2 hm.size⟩
  · have key : ∀ p q, I p → ¬ I q → F' p b → F' q b → False := fun p q hp hq h1 h2 => by
      rw [(hs q hq).2] at h2
      have hl := (h.within q b h2).2
      rcases (hsub p b hp h1).2 with ⟨r, hr, hf⟩ | h3
      · exact hq (by rw [h.apart q r b h2 hf]; exact hr)
      · omega
    by_cases hIp : I p
    · by_cases hIq : I q
      · exact hd p q b hIp hIq hp hq
      · exact (key p q hIp hIq hp hq).elim
    · by_cases hIq : I q
      · exact (key q p hIq hIp hq hp).elim
      · rw [(hs p hIp).2] at hp
        rw [(hs q hIq).2] at hq
        exact h.apart p q b hp hq
/-- Nothing of the parts is written. -/
theorem SepF.still {w0 w w' : World} {Φ : Part → Res} {F : Part → Nat → Prop} (h : SepF w0 w Φ F) (hm : Mv (fun _ => False) w w') : SepF w0 w' Φ F :=
  h.go (fun _ => False) (fun _ _ => ⟨rfl, rfl⟩) (fun _ hp => hp.elim) (hm.mono fun _ _ h => h.elim) (fun _ _ hp => hp.elim) (fun _ _ _ hp => hp.elim)

def empRes : Res := ⟨fun _ F => ∀ b, ¬ F b, fun h _ _ _ => h⟩
theorem NetIs.keep {w w' : World} {own : Own} {A : Ga} {N : Nt} (h : NetIs w own A N) (hs : w.heap.size ≤ w'.heap.size) (hk : ∀ b t, own b = some t → w'.heap[b]? = w.heap[b]?) : NetIs w' own A N := by
  obtain ⟨h0, cap, fv, lv, h1, h2, h3, h4, h5⟩ := h
  exact ⟨h0.mono hs, cap, fv, lv, ⟨h1.1, (hk _ _ h1.1).trans h1.2⟩, h2.keep (fun ho => ⟨ho, hk _ _ ho⟩), h3.keep (fun b hb => ⟨hb, hk _ _ hb⟩),
    h4.keep (fun b hb => ⟨rfl, by rcases hb with hb | hb <;> exact hk _ _ hb⟩), fun i hi => (h5 i hi).keep fun b t hb _ => ⟨hb, hk _ _ hb⟩⟩
def netRes (A : Ga) (N : Nt) : Res := ⟨fun w F => ∃ own, NetIs w own A N ∧ ∀ b, F b ↔ own b ≠ none, fun ⟨own, h1, h2⟩ _ hs hk => ⟨own, h1.keep hs (fun b t hb => hk b ((h2 b).2 (by rw [hb]; simp))), h2⟩⟩
def refRes (G : Nat) (R : Rf) : Res := ⟨fun w F => ∃ own, RefIs w own G R ∧ ∀ b, F b ↔ own b ≠ none, fun ⟨own, h1, h2⟩ _ hs hk => ⟨own, h1.keep (h1.1.mono hs) (fun b t hb => ⟨hb, hk b ((h2 b).2 (by rw [hb]; simp))⟩), h2⟩⟩

/-! ### the book -/
inductive BTag where
  | play | book | row | dat
abbrev BOwn := Nat → Option BTag
/-- A list that was answered, the same with one more, and the mark in both. -/
structure Hd where
  a : Option Addr
  n : Nat
  c : Nat
  a' : Option Addr
  c' : Nat
  mark : Int
def Hd.cells (h : Hd) : List Value := [.slice h.a h.n h.c, .slice h.a' (h.n + 1) h.c', .int .u8 h.mark]
def hdCells (H : List Hd) : List Value := H.flatMap Hd.cells
def HdIs (w : World) (own : BOwn) (h : Hd) : Prop :=
  RowIn w h.a h.n (List.replicate h.n h.mark) ∧ RowIn w h.a' (h.n + 1) (List.replicate (h.n + 1) h.mark) ∧ (h.n ≠ 0 → ∀ ad, h.a = some ad → own ad.block = some .dat) ∧ ∀ ad, h.a' = some ad → own ad.block = some .dat

structure Side where
  A : Ga
  N : Nt
  G : Nat
  R : Rf
def pA : Option Side → Value
  | none => .pointer none
  | some s => .pointer (some ⟨s.A.net, 0, none⟩)
def pR : Option Side → Value
  | none => .pointer none
  | some s => .pointer (some ⟨s.G, 0, none⟩)
def BookIs (w : World) (own : BOwn) (pb bb : Nat) (st : Nat → Option Side) (H : List Hd) : Prop :=
  (∀ b t, own b = some t → b < w.heap.size) ∧ own pb = some .play ∧ w.heap[pb]? = some (.cells #[pA (st 0), pA (st 1), pR (st 0), pR (st 1), .bool (st 0).isSome, .bool (st 1).isSome, .pointer (some ⟨bb, 0, none⟩)] 40 (0, 0)) ∧
    own bb = some .book ∧ ∃ lv, w.heap[bb]? = some (.cells #[lv] 89 (0, 0)) ∧ w.ownsRow 0 124 3 lv H.length (hdCells H) ∧ (∀ b, lv.ownBlock = some b → own b = some .row) ∧ ∀ h ∈ H, HdIs w own h
theorem HdIs.keep {w w' : World} {own own' : BOwn} {h : Hd} (hh : HdIs w own h) (hk : ∀ b, own b = some .dat → own' b = some .dat ∧ w'.heap[b]? = w.heap[b]?) : HdIs w' own' h := by
  obtain ⟨h1, h2, h3, h4⟩ := hh
  refine ⟨?_, h2.keep fun ad ha => (hk _ (h4 ad ha)).2, fun h0 ad ha => (hk _ (h3 h0 ad ha)).1, fun ad ha => (hk _ (h4 ad ha)).1⟩
  by_cases h0 : h.n = 0
  · exact ⟨h1.1, .inl h0⟩
  · exact h1.keep fun ad ha => (hk _ (h3 h0 ad ha)).2
theorem BookIs.keep {w w' : World} {own : BOwn} {pb bb : Nat} {st : Nat → Option Side} {H : List Hd} (h : BookIs w own pb bb st H) (hs : w.heap.size ≤ w'.heap.size) (hk : ∀ b t, own b = some t → w'.heap[b]? = w.heap[b]?) : BookIs w' own pb bb st H := by
  obtain ⟨h0, h1, h2, h3, lv, h4, h5, h6, h7⟩ := h
  exact ⟨fun b t hb => Nat.lt_of_lt_of_le (h0 b t hb) hs, h1, (hk _ _ h1).trans h2, h3, lv, (hk _ _ h3).trans h4, ownsRow_keep h5 (fun b hb => hk _ _ (h6 b hb)), h6, fun x hx => (h7 x hx).keep fun b hb => ⟨hb, hk _ _ hb⟩⟩
def bookRes (pb bb : Nat) (st : Nat → Option Side) (H : List Hd) : Res :=
  ⟨fun w F => ∃ own, BookIs w own pb bb st H ∧ ∀ b, F b ↔ own b ≠ none, fun ⟨own, h1, h2⟩ _ hs hk => ⟨own, h1.keep hs (fun b t hb => hk b ((h2 b).2 (by rw [hb]; simp))), h2⟩⟩
def sideNet : Option Side → Res
  | none => empRes
  | some s => netRes s.A s.N
def sideRef : Option Side → Res
  | none => empRes
  | some s => refRes s.G s.R
def resOf (pb bb : Nat) (st : Nat → Option Side) (H : List Hd) (hand : Res) : Part → Res
  | .net k => sideNet (st k)
  | .ref k => sideRef (st k)
  | .book => bookRes pb bb st H
  | .hand => hand
/-- THE WHOLE. -/
def PlaySep (w0 w : World) (pb bb : Nat) (st : Nat → Option Side) (H : List Hd) (hand : Res) : Prop := ∃ F, SepF w0 w (resOf pb bb st H hand) F
theorem PlaySep.still {w0 w w' : World} {pb bb : Nat} {st : Nat → Option Side} {H : List Hd} {hand : Res} (h : PlaySep w0 w pb bb st H hand) (hm : Mv (fun _ => False) w w') : PlaySep w0 w' pb bb st H hand := by
  obtain ⟨F, h⟩ := h
  exact ⟨F, h.still hm⟩
theorem PlaySep.below {w0 w : World} {pb bb : Nat} {st : Nat → Option Side} {H : List Hd} {hand : Res} (h : PlaySep w0 w pb bb st H hand) : Below w0.heap.size w0 w := by
  obtain ⟨F, h⟩ := h
  exact h.mv.below
end Go.Proofs.Ytadalodjnbnjkaa
