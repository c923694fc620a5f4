/- Parts of memory that one call turns. -/
import Derived.Test.YtadalodjnbnjkaaPlay13
import Derived.Test.YtadalodjnbnjkaaPlay14
import Derived.Test.YtadalodjnbnjkaaPlay11
import Derived.Deep.RegionLawGrows
import Derived.Deep.AppendLies
namespace Go.Proofs.Ytadalodjnbnjkaa
open Go.RowKit Go.Conc

theorem bookRes_upd {pb bb : Nat} {st : Nat → Option Side} {H : List Hd} {k : Nat} {s s' : Side} (hs : st k = some s) (h1 : s'.A.net = s.A.net) (h2 : s'.G = s.G) : bookRes pb bb (updS st k (some s')) H = bookRes pb bb st H := by
  have e : ∀ i, pA (updS st k (some s') i) = pA (st i) ∧ pR (updS st k (some s') i) = pR (st i) ∧ (updS st k (some s') i).isSome = (st i).isSome := fun i => by
    by_cases hi : i = k
    · subst hi
      rw [updS_same, hs]
      simp [pA, pR, h1, h2]
    · rw [updS_other _ _ hi]
      exact ⟨rfl, rfl, rfl⟩
  have hB : ∀ w own, BookIs w own pb bb (updS st k (some s')) H = BookIs w own pb bb st H := fun w own => by
    unfold BookIs
    rw [(e 0).1, (e 1).1, (e 0).2.1, (e 1).2.1, (e 0).2.2, (e 1).2.2]
  unfold bookRes
  simp only [hB]

section
variable {w0 w w' : World} {pb bb k : Nat} {st : Nat → Option Side} {H : List Hd} {hand : Res} {F : Part → Nat → Prop} {s : Side}
theorem SepF.netAt (h : SepF w0 w (resOf pb bb st H hand) F) (hs : st k = some s) : ∃ own, NetIs w own s.A s.N ∧ ∀ b, F (.net k) b ↔ own b ≠ none := by
  have := h.hold (.net k)
  simp only [resOf, hs, sideNet, netRes] at this
  exact this
theorem SepF.refAt (h : SepF w0 w (resOf pb bb st H hand) F) (hs : st k = some s) : ∃ own, RefIs w own s.G s.R ∧ ∀ b, F (.ref k) b ↔ own b ≠ none := by
  have := h.hold (.ref k)
  simp only [resOf, hs, sideRef, refRes] at this
  exact this
theorem SepF.bookAt (h : SepF w0 w (resOf pb bb st H hand) F) : ∃ own, BookIs w own pb bb st H ∧ ∀ b, F .book b ↔ own b ≠ none := h.hold .book
theorem resOf_net (hs : st k = some s) (N' : Nt) {p : Part} (hp : p ≠ .net k) : resOf pb bb (updS st k (some { s with N := N' })) H hand p = resOf pb bb st H hand p := by
  cases p with
  | net i =>
    have hi : i ≠ k := fun e => hp (by rw [e])
    simp only [resOf]
    rw [updS_other _ _ hi]
  | ref i =>
    simp only [resOf]
    by_cases hi : i = k
    · subst hi
      rw [updS_same, hs]
      rfl
    · rw [updS_other _ _ hi]
  | book => exact bookRes_upd hs rfl rfl
  | hand => rfl
theorem resOf_ref (hs : st k = some s) (R' : Rf) {p : Part} (hp : p ≠ .ref k) : resOf pb bb (updS st k (some { s with R := R' })) H hand p = resOf pb bb st H hand p := by
  cases p with
  | net i =>
    simp only [resOf]
    by_cases hi : i = k
    · subst hi
      rw [updS_same, hs]
      rfl
    · rw [updS_other _ _ hi]
  | ref i =>
    have hi : i ≠ k := fun e => hp (by rw [e])
    simp only [resOf]
    rw [updS_other _ _ hi]
  | book => exact bookRes_upd hs rfl rfl
  | hand => rfl
/-- A call on net k. -/
theorem SepF.netTurn (h : SepF w0 w (resOf pb bb st H hand) F) (hs : st k = some s) {own own' : Own} {N' : Nt} (hF : ∀ b, F (.net k) b ↔ own b ≠ none) (hN : NetIs w' own' s.A N') (hm : Mv own.has w w') (hg : Grows w.heap.size own own') :
    ∃ F', SepF w0 w' (resOf pb bb (updS st k (some { s with N := N' })) H hand) F' ∧ F' .hand = F .hand := by
  classical
  refine ⟨fun p => if p = .net k then fun b => own' b ≠ none else F p, h.go (fun p => p = .net k) (fun p hp => ⟨resOf_net hs N' hp, if_neg hp⟩) (fun p hp => ?_) (hm.mono fun b _ hb => ⟨.net k, rfl, (hF b).2 hb⟩) (fun p b hp hb => ?_) (fun p q b hp hq _ _ => hp.trans hq.symm), if_neg (by simp)⟩
  · subst hp
    simp only [resOf, updS_same, sideNet, netRes, if_pos]
    exact ⟨own', hN, fun b => Iff.rfl⟩
  · subst hp
    simp only [if_pos] at hb
    obtain ⟨t, ht⟩ := Option.ne_none_iff_exists'.1 hb
    refine ⟨hN.1 b t ht, ?_⟩
    rcases Nat.lt_or_ge b w.heap.size with hl | hl
    · exact .inl ⟨.net k, rfl, (hF b).2 fun e => hb (hg b hl e)⟩
    · exact .inr hl
/-- A call on the document's net k. -/
theorem SepF.refTurn (h : SepF w0 w (resOf pb bb st H hand) F) (hs : st k = some s) {own own' : ROwn} {R' : Rf} (hF : ∀ b, F (.ref k) b ↔ own b ≠ none) (hN : RefIs w' own' s.G R') (hm : Mv own.may w w') (hg : RGrows w.heap.size own own') :
    ∃ F', SepF w0 w' (resOf pb bb (updS st k (some { s with R := R' })) H hand) F' ∧ F' .hand = F .hand := by
  classical
  refine ⟨fun p => if p = .ref k then fun b => own' b ≠ none else F p, h.go (fun p => p = .ref k) (fun p hp => ⟨resOf_ref hs R' hp, if_neg hp⟩) (fun p hp => ?_) (hm.mono fun b _ hb => ⟨.ref k, rfl, (hF b).2 hb.1⟩) (fun p b hp hb => ?_) (fun p q b hp hq _ _ => hp.trans hq.symm), if_neg (by simp)⟩
  · subst hp
    simp only [resOf, updS_same, sideRef, refRes, if_pos]
    exact ⟨own', hN, fun b => Iff.rfl⟩
  · subst hp
    simp only [if_pos] at hb
    obtain ⟨t, ht⟩ := Option.ne_none_iff_exists'.1 hb
    refine ⟨hN.1 b t ht, ?_⟩
    rcases Nat.lt_or_ge b w.heap.size with hl | hl
    · exact .inl ⟨.ref k, rfl, (hF b).2 fun e => hb (hg.1 b hl e)⟩
    · exact .inr hl

/-- What was answered, in hand. -/
def lstRes (a : Option Addr) (n c : Nat) : Res := ⟨fun w F => LstIs w a n c ∧ ∀ b, F b ↔ Blk a b, fun {w w' F} ⟨h1, h2⟩ _ _ hk => ⟨by
  rcases h1 with h1 | ⟨g, cur, e, h3, h4⟩
  · exact .inl h1
  · exact .inr ⟨g, cur, e, (hk g ((h2 g).2 e)).trans h3, h4⟩, h2⟩⟩
/-- A call on net k that gives a message out. -/
theorem SepF.netTake (h : SepF w0 w (resOf pb bb st H hand) F) (hs : st k = some s) {own own' : Own} {N' : Nt} (hF : ∀ b, F (.net k) b ↔ own b ≠ none) (hN : NetIs w' own' s.A N') (hm : Mv own.has w w') (hg : Grows w.heap.size own own')
    {a : Option Addr} {n c : Nat} (hl : LstIs w' a n c) (hla : ∀ b, Blk a b → b < w'.heap.size ∧ own' b = none ∧ (own b ≠ none ∨ w.heap.size ≤ b)) :
    PlaySep w0 w' pb bb (updS st k (some { s with N := N' })) H (lstRes a n c) := by
  classical
  refine ⟨fun p => if p = .net k then fun b => own' b ≠ none else if p = .hand then Blk a else F p, h.go (fun p => p = .net k ∨ p = .hand) (fun p hp => ?_) (fun p hp => ?_) (hm.mono fun b _ hb => ⟨.net k, .inl rfl, (hF b).2 hb⟩) (fun p b hp hb => ?_) (fun p q b hp hq h1 h2 => ?_)⟩
  · have e1 : p ≠ .net k := fun e => hp (.inl e)
    have e2 : p ≠ .hand := fun e => hp (.inr e)
    refine ⟨?_, by rw [if_neg e1, if_neg e2]⟩
    rw [resOf_net hs N' e1]
    cases p <;> first | rfl | exact absurd rfl e2
  · rcases hp with rfl | rfl
    · simp only [resOf, updS_same, sideNet, netRes, if_pos]
      exact ⟨own', hN, fun b => Iff.rfl⟩
    · exact ⟨hl, fun b => by rw [if_neg (by simp), if_pos rfl]⟩
  · rcases hp with rfl | rfl
    · simp only [if_pos] at hb
      obtain ⟨t, ht⟩ := Option.ne_none_iff_exists'.1 hb
      refine ⟨hN.1 b t ht, ?_⟩
      rcases Nat.lt_or_ge b w.heap.size with hl | hl
      · exact .inl ⟨.net k, .inl rfl, (hF b).2 fun e => hb (hg b hl e)⟩
      · exact .inr hl
    · rw [if_neg (by simp), if_pos rfl] at hb
      obtain ⟨q1, _, q3⟩ := hla b hb
      exact ⟨q1, q3.imp (fun e => ⟨.net k, .inl rfl, (hF b).2 e⟩) id⟩
  · rcases hp with rfl | rfl <;> rcases hq with rfl | rfl
    · rfl
    · rw [if_neg (by simp), if_pos rfl] at h2
      simp only [if_pos] at h1
      exact absurd (hla b h2).2.1 h1
    · rw [if_neg (by simp), if_pos rfl] at h1
      simp only [if_pos] at h2
      exact absurd (hla b h1).2.1 h2
    · rfl
/-- hold. -/
theorem PlaySep.held {a : Option Addr} {n c : Nat} (h : PlaySep w0 w pb bb st H (lstRes a n c)) (hn : n ≤ 1099511627776) (hl : H.length ≤ 549755813888) :
    Calls Try.prog 59 #[.pointer (some ⟨bb, 0, none⟩), .slice a n c] w fun e w' => e = .returned (.tuple #[]) ∧ ∃ x : Hd, x.n = n ∧ PlaySep w0 w' pb bb st (H ++ [x]) empRes := by
  classical
  obtain ⟨F, h⟩ := h
  obtain ⟨own, hB, hF⟩ := h.bookAt
  obtain ⟨hL, hFh⟩ : LstIs w a n c ∧ ∀ b, F .hand b ↔ Blk a b := h.hold .hand
  have hno : ∀ b, Blk a b → own b = none := fun b hb => by
    cases e : own b with
    | none => rfl
    | some t => exact absurd (h.apart .book .hand b ((hF b).2 (by rw [e]; simp)) ((hFh b).2 hb)) (by simp)
  refine (hold_any w own pb bb st H a n c hB hL hno hn hl).mono ?_
  rintro e w' ⟨rfl, own', x, hx, hB', hm, hsub⟩
  refine ⟨rfl, x, hx, fun p => if p = .book then fun b => own' b ≠ none else if p = .hand then fun _ => False else F p, h.go (fun p => p = .book ∨ p = .hand) (fun p hp => ?_) (fun p hp => ?_) (hm.mono fun b _ hb => ?_) (fun p b hp hb => ?_) (fun p q b hp hq h1 h2 => ?_)⟩
  · have e1 : p ≠ .book := fun e => hp (.inl e)
    have e2 : p ≠ .hand := fun e => hp (.inr e)
    refine ⟨?_, by rw [if_neg e1, if_neg e2]⟩
    cases p <;> first | rfl | exact absurd rfl e1 | exact absurd rfl e2
  · rcases hp with rfl | rfl
    · exact ⟨own', hB', fun b => by rw [if_pos rfl]⟩
    · exact fun b hb => by rw [if_neg (by simp), if_pos rfl] at hb; exact hb
  · rcases hb with hb | hb
    · exact ⟨.book, .inl rfl, (hF b).2 hb⟩
    · exact ⟨.hand, .inr rfl, (hFh b).2 hb⟩
  · rcases hp with rfl | rfl
    · rw [if_pos rfl] at hb
      obtain ⟨t, ht⟩ := Option.ne_none_iff_exists'.1 hb
      refine ⟨hB'.1 b t ht, ?_⟩
      rcases hsub b hb with e | e | e
      · exact .inl ⟨.book, .inl rfl, (hF b).2 e⟩
      · exact .inl ⟨.hand, .inr rfl, (hFh b).2 e⟩
      · exact .inr e
    · rw [if_neg (by simp), if_pos rfl] at hb
      exact hb.elim
  · rcases hp with rfl | rfl <;> rcases hq with rfl | rfl
    · rfl
    · rw [if_neg (by simp), if_pos rfl] at h2; exact h2.elim
    · rw [if_neg (by simp), if_pos rfl] at h1; exact h1.elim
    · rfl
end
end Go.Proofs.Ytadalodjnbnjkaa

/- The document's net: a lane's list turns; a message is there. -/
namespace Go.Proofs.Ytadalodjnbnjkaa
open Go.RowKit Go.Conc

def Rf.setW (R : Rf) (i : Nat) (ms : List (List Int)) : Rf := { R with waits := fun j => if j = i then ms else R.waits j }
def Rf.come (R : Rf) (i : Nat) (m : List Int) : Rf := R.setW i (pushBuf (R.waits i) m)
  where pushBuf (b : List (List Int)) (m : List Int) : List (List Int) := if b.length < 64 then b ++ [m] else b

/-- Lane i's list is let go. -/
def ROwn.dropL (own : ROwn) (i : Nat) : ROwn := fun k => match own k with
  | some (.wl j) => if j = i then none else some (.wl j)
  | o => o
theorem ROwn.dropL_keep {own : ROwn} {i k : Nat} {t : RTag} (h : own k = some t) (ht : t ≠ .wl i) : own.dropL i k = some t := by
  unfold ROwn.dropL
  rw [h]
  cases t with
  | wl j =>
    have : j ≠ i := fun e => ht (by rw [e])
    simp [this]
  | _ => rfl
theorem ROwn.dropL_none {own : ROwn} {i k : Nat} (h : own k = none) : own.dropL i k = none := by unfold ROwn.dropL; rw [h]
theorem ROwn.dropL_some {own : ROwn} {i k : Nat} {t : RTag} (h : own.dropL i k = some t) : ∃ u, own k = some u := by
  cases ho : own k with
  | none => rw [ROwn.dropL_none ho] at h; cases h
  | some u => exact ⟨u, rfl⟩
/-- The parts of memory, by name. -/
structure RParts (w : World) (own : ROwn) (G : Nat) (R : Rf) (fv : Value) (wb wcap sb scap : Nat) (lv : Value) (cur : Array Value) : Prop where
  lies : RLies w own
  head : RHeadIs w own G R.time fv R.sent wb R.nl wcap sb scap lv
  fates : RFatesIs w own fv R.fates
  warr : own wb = some .warr
  cap : R.nl ≤ wcap
  arr : w.heap[wb]? = some (.cells cur 132 (0, 0))
  wl : ∀ i, i < R.nl → ∃ u, cur[i]? = some u ∧ WlIs w own i u (R.waits i)
  sarr : SarrIs w own sb R.nl scap R.shut
  lates : RLatesIs w own lv R.lates
theorem RefIs.parts {w : World} {own : ROwn} {G : Nat} {R : Rf} (h : RefIs w own G R) : ∃ fv wb wcap sb scap lv cur, RParts w own G R fv wb wcap sb scap lv cur := by
  obtain ⟨h0, fv, wb, wcap, sb, scap, lv, h1, h2, ⟨a1, a2, cur, a3, a4⟩, h4, h5⟩ := h
  exact ⟨fv, wb, wcap, sb, scap, lv, cur, h0, h1, h2, a1, a2, a3, a4, h4, h5⟩
theorem RParts.refIs {w : World} {own : ROwn} {G : Nat} {R : Rf} {fv : Value} {wb wcap sb scap : Nat} {lv : Value} {cur : Array Value} (h : RParts w own G R fv wb wcap sb scap lv cur) : RefIs w own G R :=
  ⟨h.lies, fv, wb, wcap, sb, scap, lv, h.head, h.fates, ⟨h.warr, h.cap, cur, h.arr, h.wl⟩, h.sarr, h.lates⟩

section
variable {w w' : World} {own own' : ROwn} {G : Nat} {R : Rf} {fv : Value} {wb wcap sb scap : Nat} {lv : Value} {cur : Array Value}
theorem RParts.cell3 (h : RParts w own G R fv wb wcap sb scap lv cur) : w.cell? ⟨G, 3, none⟩ = some (.slice (some ⟨wb, 0, none⟩) R.nl wcap) := cell_of_heap h.head.2 3 rfl
/-- Lane i's list has turned. -/
theorem RParts.turn (h : RParts w own G R fv wb wcap sb scap lv cur) (i : Nat) (v : Value) (ms : List (List Int)) (hl : RLies w' own')
    (hk : ∀ b t, own b = some t → t ≠ .wl i → b ≠ wb → own' b = some t ∧ w'.heap[b]? = w.heap[b]?) (ho : own' wb = some .warr) (ha : w'.heap[wb]? = some (.cells (cur.setIfInBounds i v) 132 (0, 0)))
    (hw : WlIs w' own' i v ms) : RefIs w' own' G (R.setW i ms) := by
  have ne : ∀ b t, own b = some t → t ≠ .warr → b ≠ wb := fun b t hb ht e => by rw [e, h.warr] at hb; cases hb; exact ht rfl
  have k : ∀ b t, own b = some t → t ≠ .wl i → t ≠ .warr → own' b = some t ∧ w'.heap[b]? = w.heap[b]? := fun b t hb h1 h2 => hk b t hb h1 (ne b t hb h2)
  refine ⟨hl, fv, wb, wcap, sb, scap, lv, ⟨(k _ _ h.head.1 (by simp) (by simp)).1, (k _ _ h.head.1 (by simp) (by simp)).2.trans h.head.2⟩, h.fates.keep fun b hb => k b _ hb (by simp) (by simp), ⟨ho, h.cap, _, ha, fun j hj => ?_⟩,
    h.sarr.keep fun b hb => k b _ hb (by simp) (by simp), h.lates.keep fun b t hb ht => k b t hb (by rcases ht with rfl | rfl <;> simp) (by rcases ht with rfl | rfl <;> simp)⟩
  obtain ⟨u, q1, q2⟩ := h.wl j hj
  by_cases e : j = i
  · subst e
    refine ⟨v, ?_, ?_⟩
    · rw [Array.getElem?_setIfInBounds_self, if_pos (Array.getElem?_eq_some_iff.1 q1).1]
    · show WlIs w' own' j v (if j = j then ms else _)
      rw [if_pos rfl]; exact hw
  · refine ⟨u, by rw [Array.getElem?_setIfInBounds_ne (Ne.symm e)]; exact q1, ?_⟩
    show WlIs w' own' j u (if j = i then ms else R.waits j)
    rw [if_neg e]
    exact q2.keep fun b t hb ht => k b t hb (by rcases ht with rfl | rfl; simp; simp [e]) (by rcases ht with rfl | rfl <;> simp)
end

theorem setW_same (R : Rf) (i : Nat) : R.setW i (R.waits i) = R := by
  unfold Rf.setW
  congr 1
  funext j
  split
  · subst_vars; rfl
  · rfl

/-- A message joins in place. -/
theorem come_room {w : World} {own : ROwn} {G i : Nat} {R : Rf} {fv : Value} {wb wcap sb scap : Nat} {lv : Value} {cur : Array Value} (h : RParts w own G R fv wb wcap sb scap lv cur) {b off cap : Nat} {bc : Array Value} {m : List Int} {u : Value}
    (hb : own b = some (.wl i)) (hbc : w.heap[b]? = some (.cells bc 47 (0, 0))) (hroom : (R.waits i).length + 1 ≤ cap) (hcap : off + cap ≤ bc.size)
    (hr : ∀ j m, (R.waits i)[j]? = some m → ∃ u, bc[off + j]? = some u ∧ DatIs w own u m) (hu : DatIs w own u m) {w1 : World} (hw1 : ∀ k, k < w.heap.size → w1.heap[k]? = w.heap[k]?) (hs1 : w.heap.size ≤ w1.heap.size) (ho : w1.os = w.os) (ht : w1.tape = w.tape) (hp : w1.output = w.output) (h64 : (R.waits i).length < 64) :
    RLeaves w own G (R.come i m) (.returned (.tuple #[])) (.returned (.tuple #[])) ((w1.setCell ⟨b, off + (R.waits i).length, none⟩ u).setCell ⟨wb, i, none⟩ (.slice (some ⟨b, off, none⟩) ((R.waits i).length + 1) cap)) := by
  have hbw : b ≠ wb := fun e => by rw [e, h.warr] at hb; cases hb
  have hbl := lt_of_heap hbc
  have hwl := lt_of_heap h.arr
  have hm : Mv own.may w ((w1.setCell ⟨b, off + (R.waits i).length, none⟩ u).setCell ⟨wb, i, none⟩ (.slice (some ⟨b, off, none⟩) ((R.waits i).length + 1) cap)) :=
    Mv.setCell (Mv.setCell ⟨ho, ht, hp, hs1, fun k hk _ => hw1 k hk⟩ (.inl ⟨by rw [hb]; simp, by rw [hb]; simp⟩) _) (.inl ⟨by rw [h.warr]; simp, by rw [h.warr]; simp⟩) _
  have hoth : ∀ k, k < w.heap.size → k ≠ b → k ≠ wb → ((w1.setCell ⟨b, off + (R.waits i).length, none⟩ u).setCell ⟨wb, i, none⟩ (.slice (some ⟨b, off, none⟩) ((R.waits i).length + 1) cap)).heap[k]? = w.heap[k]? := fun k hk h1 h2 => by
    rw [heap_setCell_other h2, heap_setCell_other h1]; exact hw1 k hk
  have hbb : ((w1.setCell ⟨b, off + (R.waits i).length, none⟩ u).setCell ⟨wb, i, none⟩ (.slice (some ⟨b, off, none⟩) ((R.waits i).length + 1) cap)).heap[b]? = some (.cells (bc.setIfInBounds (off + (R.waits i).length) u) 47 (0, 0)) := by
    rw [heap_setCell_other hbw]; exact heap_setCell_same ((hw1 b hbl).trans hbc) _
  refine ⟨rfl, own, ?_, hm, RGrows.refl _ _⟩
  refine h.turn (w' := _) (own' := own) i (.slice (some ⟨b, off, none⟩) ((R.waits i).length + 1) cap) (Rf.come.pushBuf (R.waits i) m) (h.lies.mono hm.size) (fun k t hk h1 h2 => ⟨hk, hoth k (h.lies k t hk) (fun e => by rw [e, hb] at hk; cases hk; exact h1 rfl) h2⟩) h.warr ?_ ?_
  · refine heap_setCell_same ?_ _
    rw [heap_setCell_other (Ne.symm hbw)]; exact (hw1 wb hwl).trans h.arr
  · unfold Rf.come.pushBuf
    rw [if_pos h64]
    refine .inr ⟨b, off, cap, _, by rw [List.length_append]; rfl, hb, hbb, by rw [List.length_append]; exact hroom, by simpa using hcap, fun j x hj => ?_⟩
    by_cases e : j < (R.waits i).length
    · rw [List.getElem?_append_left e] at hj
      obtain ⟨v, q1, q2⟩ := hr j x hj
      have q3 := (hw1 b hbl).trans hbc
      refine ⟨v, by rw [Array.getElem?_setIfInBounds_ne (by omega)]; exact q1, ?_⟩
      exact q2.keep fun k hk => ⟨hk, hoth k (h.lies k _ hk) (fun e => by rw [e, hb] at hk; cases hk) (fun e => by rw [e, h.warr] at hk; cases hk)⟩
    · rw [List.getElem?_append_right (by omega)] at hj
      have ej : j = (R.waits i).length := by
        have := (List.getElem?_eq_some_iff.1 hj).1
        simp at this; omega
      subst ej
      simp at hj
      subst hj
      refine ⟨u, by rw [Array.getElem?_setIfInBounds_self, if_pos (by omega)], ?_⟩
      exact hu.keep fun k hk => ⟨hk, hoth k (h.lies k _ hk) (fun e => by rw [e, hb] at hk; cases hk) (fun e => by rw [e, h.warr] at hk; cases hk)⟩

/-- A message joins, the list laid anew. -/
theorem come_grow {w : World} {own : ROwn} {G i : Nat} {R : Rf} {fv : Value} {wb wcap sb scap : Nat} {lv : Value} {cur : Array Value} (h : RParts w own G R fv wb wcap sb scap lv cur) {v' : Value} {m : List Int} {u : Value}
    (hu : DatIs w own u m) {us : List Value} (hus : us.length = (R.waits i).length) (hr : ∀ (j : Nat) m, (R.waits i)[j]? = some m → ∃ x, us[j]? = some x ∧ DatIs w own x m)
    {w3 : World} (hm3 : Mv (fun _ => False) w w3) (hown : w3.ownsRow w.heap.size 47 1 v' ((R.waits i).length + 1) (us ++ [u])) (h64 : (R.waits i).length < 64) :
    RLeaves w own G (R.come i m) (.returned (.tuple #[])) (.returned (.tuple #[])) (w3.setCell ⟨wb, i, none⟩ v') := by
  have hwbl := lt_of_heap h.arr
  obtain ⟨g, gcap, gc, rfl, g1, g2, g3, g4, g5, g6⟩ := hown.2.resolve_left (fun hh => by omega)
  have hs3 := hm3.size
  have hgw : g ≠ wb := by omega
  have hgn : own g = none := h.lies.none g1
  have hm : Mv own.may w (w3.setCell ⟨wb, i, none⟩ (.slice (some ⟨g, 0, none⟩) ((R.waits i).length + 1) gcap)) :=
    Mv.setCell (hm3.mono fun _ _ hh => hh.elim) (.inl ⟨by rw [h.warr]; simp, by rw [h.warr]; simp⟩) _
  have hoth : ∀ k, k < w.heap.size → k ≠ wb → (w3.setCell ⟨wb, i, none⟩ (.slice (some ⟨g, 0, none⟩) ((R.waits i).length + 1) gcap)).heap[k]? = w.heap[k]? := fun k hk h2 => by
    rw [heap_setCell_other h2]; exact hm3.block k hk id
  -- the old list's block is let go
  have e1 : ∀ k, k ≠ g → ((own.dropL i).put g (.wl i)) k = own.dropL i k := fun k hk => ROwn.put_other _ _ hk
  have ek : ∀ k t, own k = some t → t ≠ .wl i → ((own.dropL i).put g (.wl i)) k = some t := fun k t hk ht => by
    rw [e1 k (fun e => by rw [e, hgn] at hk; cases hk)]; exact ROwn.dropL_keep hk ht
  have hl : RLies (w3.setCell ⟨wb, i, none⟩ (.slice (some ⟨g, 0, none⟩) ((R.waits i).length + 1) gcap)) ((own.dropL i).put g (.wl i)) := by
    intro k t hk
    have hsz : (w3.setCell ⟨wb, i, none⟩ (.slice (some ⟨g, 0, none⟩) ((R.waits i).length + 1) gcap)).heap.size = w3.heap.size := by simp
    by_cases e : k = g
    · rw [e, hsz]; exact lt_of_heap g2
    · rw [e1 k e] at hk
      obtain ⟨u, hu2⟩ := ROwn.dropL_some hk
      have := h.lies k u hu2; omega
  refine ⟨rfl, (own.dropL i).put g (.wl i), ?_, hm, ⟨fun k hk ho => ?_, fun k hk => ek k _ hk (by simp)⟩⟩
  · refine h.turn (own' := (own.dropL i).put g (.wl i)) i _ (Rf.come.pushBuf (R.waits i) m) hl (fun k t hk h1 h2 => ⟨ek k t hk h1, hoth k (h.lies k t hk) h2⟩) (ek wb _ h.warr (by simp)) (heap_setCell_same ((hm3.block wb hwbl id).trans h.arr) _) ?_
    unfold Rf.come.pushBuf
    rw [if_pos h64]
    refine .inr ⟨g, 0, gcap, gc, by rw [List.length_append]; rfl, ROwn.put_same _ _ _, by rw [heap_setCell_other hgw]; exact g2, by rw [List.length_append]; exact g3, by omega, fun j x hj => ?_⟩
    have get : ∀ y, (us ++ [u])[j]? = some y → gc[0 + j]? = some y := fun y hy => by
      have hjl := (List.getElem?_eq_some_iff.1 hy).1
      rw [List.length_append] at hjl
      have : (gc.toList.take (((R.waits i).length + 1) * 1))[j]? = some y := by rw [g6]; exact hy
      rw [List.getElem?_take, if_pos (by simp at hjl; omega)] at this
      rw [Nat.zero_add]
      simpa using this
    have kd : ∀ y z, DatIs w own y z → DatIs (w3.setCell ⟨wb, i, none⟩ (.slice (some ⟨g, 0, none⟩) ((R.waits i).length + 1) gcap)) ((own.dropL i).put g (.wl i)) y z := fun y z hd =>
      hd.keep fun k hk => ⟨ek k _ hk (by simp), hoth k (h.lies k _ hk) (fun e => by rw [e, h.warr] at hk; cases hk)⟩
    by_cases e : j < (R.waits i).length
    · rw [List.getElem?_append_left e] at hj
      obtain ⟨y, q1, q2⟩ := hr j x hj
      exact ⟨y, get y (by rw [List.getElem?_append_left (by omega)]; exact q1), kd _ _ q2⟩
    · rw [List.getElem?_append_right (by omega)] at hj
      have ej : j = (R.waits i).length := by
        have := (List.getElem?_eq_some_iff.1 hj).1
        simp at this; omega
      subst ej
      simp at hj
      subst hj
      exact ⟨u, get u (by rw [List.getElem?_append_right (by omega)]; simp [hus]), kd _ _ hu⟩
  · have : k ≠ g := by omega
    rw [e1 k this]
    exact ROwn.dropL_none ho
end Go.Proofs.Ytadalodjnbnjkaa

/- The document's net: come, copied, later. -/
namespace Go.Proofs.Ytadalodjnbnjkaa
open Go.RowKit Go.Conc

theorem RLeaves.calm {w w' w'' : World} {own : ROwn} {G : Nat} {R' : Rf} {e₀ e : Ending} (h : RLeaves w own G R' e₀ e w') (hm : Mv (fun _ => False) w' w'') : RLeaves w own G R' e₀ e w'' := by
  obtain ⟨he, own', h1, h2, h3⟩ := h
  exact ⟨he, own', h1.still hm, h2.trans' hm (fun _ _ hh => hh.elim), h3⟩

set_option maxRecDepth 100000 in
set_option maxHeartbeats 1600000 in
theorem rcome_any (w : World) (own : ROwn) (G : Nat) (R : Rf) (i : Nat) (m : List Int) (u : Value) (h : RefIs w own G R) (hi : i < R.nl) (hu : DatIs w own u m) :
    Calls Try.prog 65 #[.pointer (some ⟨G, 0, none⟩), .int .i64 i, u] w (RLeaves w own G (R.come i m) (.returned (.tuple #[]))) := by
  obtain ⟨fv, wb, wcap, sb, scap, lv, cur, hp⟩ := h.parts
  obtain ⟨v0, hv0, hwl⟩ := hp.wl i hi
  obtain ⟨i1, hi1, hy0, hy1, hy2⟩ := info_parts Try.info47
  have c3 := hp.cell3
  have cw : w.cell? ⟨wb, i, none⟩ = some v0 := cell_of_heap hp.arr i hv0
  have cf : w.frozen? ⟨wb, i, none⟩ = false := free_of_heap hp.arr i
  have hwbl := lt_of_heap hp.arr
  have hGl := lt_of_heap hp.head.2
  have hGw : G ≠ wb := fun e => by have := hp.head.1; rw [e, hp.warr] at this; cases this
  have hii : (i : Int) < R.nl := by omega
  have hi0 : (0 : Int) ≤ i := by omega
  have HP := Lib.hid hp
  have HU := Lib.hid hu
  have HH := Lib.hid h
  obtain ⟨ua, uc, rfl, _⟩ := hu
  obtain ⟨un, hun⟩ : ∃ n, n = m.length := ⟨_, rfl⟩
  rw [← hun] at HU ⊢
  obtain ⟨nl, hnl⟩ : ∃ n, n = R.nl := ⟨_, rfl⟩
  rw [← hnl] at hi hii c3
  have HNL := Lib.hid hnl
  clear hp h hun hnl
  by_cases h64 : (R.waits i).length < 64
  · rcases hwl with ⟨rfl, hnil⟩ | ⟨b, off, cap, bc, rfl, hb, hbc, hle, hcap, hr⟩
    · -- nothing waits, and there is no row
      have HNIL := Lib.hid hnil
      clear hnil
      go_enter Try.func65, Try.ntmps65
      go_wp2_with fail
      go_region_law (refine step_append_grows (by rfl) _ _ _ (by rfl) 47 i1 _ 1 24 Try.underlying132 hi1 hy0 hy1 hy2 rfl (by omega) none 0 0 [] (by rfl) (by intro _; exact ⟨rfl, rfl⟩) (by rfl) (by intro b hb; cases hb) ⟨w.heap.size, 0, none⟩ 1 1 [.slice ua un uc] (by rfl) (by rfl) (World.news_of_block (cs := #[.slice ua un uc]) (t := 47) (fr := (0, 0)) (heap_alloc_new w _)) (by simp [Value.oneCell']) (by omega) (by unfold maxLen; omega) (by omega) ?_; intro v' w3 hown hgrow; obtain ⟨gg, gcap, rfl, hgg, hggl⟩ := hown.form (by omega); have hB : w3.heap[wb]? = w.heap[wb]? := (hgrow.block _ (by simp; omega) (by simp)).trans (Below.heap_alloc w _ _ hwbl); have q0 : w3.cell? ⟨wb, i, none⟩ = some (.slice none 0 0) := (World.cell?_of_block (w := w) hB).trans cw; have qf : w3.frozen? ⟨wb, i, none⟩ = false := (World.frozen?_of_block (w := w) hB).trans cf; have q3 : w3.cell? ⟨G, 3, none⟩ = some (.slice (some ⟨wb, 0, none⟩) nl wcap) := (World.cell?_of_block (w := w) (a := ⟨G, 3, none⟩) ((hgrow.block _ (by simp; omega) (by simp)).trans (Below.heap_alloc w _ _ hGl))).trans c3; clear hB)
      all_goals
        have hwnil : R.waits i = [] := HNIL.out
        have hL := come_grow HP.out (i := i) (v' := .slice (some ⟨gg, 0, none⟩) (0 + 1) gcap) HU.out (us := []) (by rw [hwnil]; rfl) (fun j m hj => by rw [hwnil] at hj; simp at hj) (((Mv.refl _ _).alloc _).drew.grown hgrow (fun k hk => by cases hk)) (by rw [hwnil]; exact ownsRow_base hown (by simp)) (by rw [hwnil]; simp)
        have HL := Lib.hid hL
        clear hown hgrow hL hwnil
        go_wp2_with fail
        go_end0
        exact HL.out
    · have HB := Lib.hid hb
      have HBC := Lib.hid hbc
      have HR := Lib.hid hr
      have hbl := lt_of_heap hbc
      have hbG : b ≠ G := fun e => by have := HP.out.head.1; rw [← e, hb] at this; cases this
      have hbW : b ≠ wb := fun e => by have := HP.out.warr; rw [← e, hb] at this; cases this
      obtain ⟨n, hn⟩ : ∃ n, n = (R.waits i).length := ⟨_, rfl⟩
      rw [← hn] at h64 hle cw
      have HN := Lib.hid hn
      have hnn : (n : Int) < 64 := by omega
      have hus : ∀ j u, ((bc.toList.drop off).take n)[j]? = some u → bc[off + j]? = some u := fun j u hj => by
        rw [List.getElem?_take] at hj
        split at hj
        · rw [List.getElem?_drop] at hj
          simpa using hj
        · cases hj
      have hul : ((bc.toList.drop off).take n).length = n := by rw [List.length_take, List.length_drop]; simp; omega
      have hur : ∀ (j : Nat) m, (R.waits i)[j]? = some m → ∃ x, ((bc.toList.drop off).take n)[j]? = some x ∧ DatIs w own x m := fun j m hj => by
        obtain ⟨x, q1, q2⟩ := hr j m hj
        have hjl := (List.getElem?_eq_some_iff.1 hj).1
        refine ⟨x, ?_, q2⟩
        rw [List.getElem?_take, if_pos (by omega), List.getElem?_drop]
        simpa using q1
      have HUS := Lib.hid hus
      have HUL := Lib.hid hul
      have HUR := Lib.hid hur
      obtain ⟨us, hus0⟩ : ∃ us, us = (bc.toList.drop off).take n := ⟨_, rfl⟩
      rw [← hus0] at HUS HUL HUR
      clear hb hbc hr hn hv0 hus hul hur hus0
      by_cases hroom : n + 1 ≤ cap
      · have hspare : ∀ W : World, W.heap[b]? = some (.cells bc 47 (0, 0)) → ∀ j, j < [Value.slice ua un uc].length → (W.cell? ⟨b, off + n * 1 + j, none⟩).isSome = true ∧ W.frozen? ⟨b, off + n * 1 + j, none⟩ = false := fun W hW j hj => by
          have hj1 : j < 1 := hj
          refine ⟨?_, free_of_heap hW _⟩
          rw [cell_of_heap hW (off + n * 1 + j) (Array.getElem?_eq_getElem (by omega))]
          rfl
        have HSP := Lib.hid hspare
        clear hspare
        go_enter Try.func65, Try.ntmps65
        go_wp2_with fail
        go_region_law (refine step_append_room (by rfl) _ _ _ (by rfl) 47 i1 1 Try.underlying132 hi1 hy1 b off n cap (by rfl) ⟨w.heap.size, 0, none⟩ 1 1 [.slice ua un uc] (by rfl) (by rfl) (World.news_of_block (cs := #[.slice ua un uc]) (t := 47) (fr := (0, 0)) (heap_alloc_new w _)) (by simp [Value.oneCell']) hroom (HSP.out _ ((Below.heap_alloc w _ _ hbl).trans HBC.out)) ?_; simp only [World.setCells, Nat.mul_one]; have q0 : (((w.alloc (.cells #[.slice ua un uc] 47)).drew).setCell ⟨b, off + n, none⟩ (.slice ua un uc)).cell? ⟨wb, i, none⟩ = some (.slice (some ⟨b, off, none⟩) n cap) := (World.cell?_of_block (w := w) (a := ⟨wb, i, none⟩) ((heap_setCell_other (Ne.symm hbW) _).trans (Below.heap_alloc w _ _ hwbl))).trans cw; have qf : (((w.alloc (.cells #[.slice ua un uc] 47)).drew).setCell ⟨b, off + n, none⟩ (.slice ua un uc)).frozen? ⟨wb, i, none⟩ = false := (World.frozen?_of_block (w := w) (a := ⟨wb, i, none⟩) ((heap_setCell_other (Ne.symm hbW) _).trans (Below.heap_alloc w _ _ hwbl))).trans cf; have q3 : (((w.alloc (.cells #[.slice ua un uc] 47)).drew).setCell ⟨b, off + n, none⟩ (.slice ua un uc)).cell? ⟨G, 3, none⟩ = some (.slice (some ⟨wb, 0, none⟩) nl wcap) := (World.cell?_of_block (w := w) (a := ⟨G, 3, none⟩) ((heap_setCell_other (Ne.symm hbG) _).trans (Below.heap_alloc w _ _ hGl))).trans c3)
        all_goals
          have hL := come_room HP.out (i := i) (u := .slice ua un uc) HB.out HBC.out (by rw [← HN.out]; exact hroom) hcap HR.out HU.out (w1 := w) (fun k hk => rfl) (Nat.le_refl _) rfl rfl rfl (by rw [← HN.out]; exact h64)
          rw [← HN.out] at hL
          have HL := Lib.hid hL
          clear hL
          go_wp2_with fail
          go_end0
          exact HL.out.calm (((Mv.refl _ _).alloc _).drew)
      · have hfull : cap < n + 1 := by omega
        have hcells : ∀ W : World, W.heap[b]? = some (.cells bc 47 (0, 0)) → ∀ (b' : Addr), some (⟨b, off, none⟩ : Addr) = some b' → ∀ j u, us[j]? = some u → W.cell? (b'.add j) = some u := fun W hW b' hb' j u hj => by
          cases hb'
          have e1 : (⟨b, off, none⟩ : Addr).add j = ⟨b, off + j, none⟩ := by unfold Addr.add; split <;> simp_all
          rw [e1]
          exact cell_of_heap hW _ (HUS.out j u hj)
        have HCELLS := Lib.hid hcells
        clear hcells
        go_enter Try.func65, Try.ntmps65
        go_wp2_with fail
        go_region_law (refine step_append_grows (by rfl) _ _ _ (by rfl) 47 i1 _ 1 24 Try.underlying132 hi1 hy0 hy1 hy2 rfl (by omega) (some ⟨b, off, none⟩) n cap us (by rfl) (by intro h; cases h) (by rw [HUL.out, Nat.mul_one]) (HCELLS.out _ ((Below.heap_alloc w _ _ hbl).trans HBC.out)) ⟨w.heap.size, 0, none⟩ 1 1 [.slice ua un uc] (by rfl) (by rfl) (World.news_of_block (cs := #[.slice ua un uc]) (t := 47) (fr := (0, 0)) (heap_alloc_new w _)) (by simp [Value.oneCell']) (by omega) (by unfold maxLen; omega) (by omega) ?_; intro v' w3 hown hgrow; obtain ⟨gg, gcap, rfl, hgg, hggl⟩ := hown.form (by omega); have hB : w3.heap[wb]? = w.heap[wb]? := (hgrow.block _ (by simp; omega) (by simp)).trans (Below.heap_alloc w _ _ hwbl); have q0 : w3.cell? ⟨wb, i, none⟩ = some (.slice (some ⟨b, off, none⟩) n cap) := (World.cell?_of_block (w := w) hB).trans cw; have qf : w3.frozen? ⟨wb, i, none⟩ = false := (World.frozen?_of_block (w := w) hB).trans cf; have q3 : w3.cell? ⟨G, 3, none⟩ = some (.slice (some ⟨wb, 0, none⟩) nl wcap) := (World.cell?_of_block (w := w) (a := ⟨G, 3, none⟩) ((hgrow.block _ (by simp; omega) (by simp)).trans (Below.heap_alloc w _ _ hGl))).trans c3; clear hB)
        all_goals
          have hL := come_grow HP.out (i := i) (v' := .slice (some ⟨gg, 0, none⟩) (n + 1) gcap) HU.out (us := us) (by rw [HUL.out, HN.out]) HUR.out (((Mv.refl _ _).alloc _).drew.grown hgrow (fun k hk => by cases hk)) (by rw [← HN.out]; exact ownsRow_base hown (by simp)) (by rw [← HN.out]; exact h64)
          have HL := Lib.hid hL
          clear hown hgrow hL
          go_wp2_with fail
          go_end0
          exact HL.out
  · rcases hwl with ⟨rfl, hnil⟩ | ⟨b, off, cap, bc, rfl, hb, hbc, hle, hcap, hr⟩
    · rw [hnil] at h64
      exact absurd (by simp) h64
    · have e : R.come i m = R := by
        unfold Rf.come Rf.come.pushBuf
        rw [if_neg h64, setW_same]
      rw [e]
      obtain ⟨n, hn⟩ : ∃ n, n = (R.waits i).length := ⟨_, rfl⟩
      rw [← hn] at h64 cw
      have hnn : ¬ (n : Int) < 64 := by omega
      clear hb hbc hr hn hv0 e hle
      go_enter Try.func65, Try.ntmps65
      go_wp2_with fail
      go_end0
      exact ⟨rfl, own, HH.out, Mv.refl _ _, RGrows.refl _ _⟩
end Go.Proofs.Ytadalodjnbnjkaa
