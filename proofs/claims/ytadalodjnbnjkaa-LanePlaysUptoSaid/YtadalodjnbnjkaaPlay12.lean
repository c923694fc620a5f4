/- Memory in parts: two nets, the document's two, the book, what is in hand. -/
import Derived.Test.YtadalodjnbnjkaaPlay11
import Derived.Deep.QuietTactic
import Derived.BigQuiet
namespace Go.Proofs.Ytadalodjnbnjkaa
open Go.RowKit Go.Conc

/-- A part of memory: what it asks of a world and of the blocks that are its own. -/
structure Res where
  holds : World → (Nat → Prop) → Prop
  loc : ∀ {w w' : World} {F : Nat → Prop}, holds w F → (∀ b, F b → b < w.heap.size) → w.heap.size ≤ w'.heap.size → (∀ b, F b → w'.heap[b]? = w.heap[b]?) → holds w' F
inductive Part where
  | net (k : Nat) | ref (k : Nat) | book | hand

/-- The parts lie apart, all of them in memory that has come since w0; what was there in w0 stays. -/
structure SepF (w0 w : World) (Φ : Part → Res) (F : Part → Nat → Prop) : Prop where
  mv : Mv (fun _ => False) w0 w
  hold : ∀ p, (Φ p).holds w (F p)
  within : ∀ p b, F p b → w0.heap.size ≤ b ∧ b < w.heap.size
  apart : ∀ p q b, F p b → F q b → p = q
/-- Some parts I turn. -/
theorem SepF.go {w0 w w' : World} {Φ Φ' : Part → Res} {F F' : Part → Nat → Prop} (h : SepF w0 w Φ F) (I : Part → Prop) (hs : ∀ p, ¬ I p → Φ' p = Φ p ∧ F' p = F p) (hh : ∀ p, I p → (Φ' p).holds w' (F' p))
    (hm : Mv (fun b => ∃ p, I p ∧ F p b) w w') (hsub : ∀ p b, I p → F' p b → b < w'.heap.size ∧ ((∃ q, I q ∧ F q b) ∨ w.heap.size ≤ b)) (hd : ∀ p q b, I p → I q → F' p b → F' q b → p = q) : SepF w0 w' Φ' F' := by
  have hsz := h.mv.size
  refine ⟨h.mv.trans' hm (fun b hb ⟨p, hp, hf⟩ => by have := (h.within p b hf).1; omega), fun p => ?_, fun p b hb => ?_, fun p q b hp hq => ?_⟩
  · by_cases hI : I p
    · exact hh p hI
    · obtain ⟨e1, e2⟩ := hs p hI
      rw [e1, e2]
      exact (Φ p).loc (h.hold p) (fun b hb => (h.within p b hb).2) hm.size (fun b hb => hm.block b (h.within p b hb).2 (fun ⟨q, hq, hf⟩ => hI (by rw [h.apart p q b hb hf]; exact hq)))
  · by_cases hI : I p
    · obtain ⟨h1, h2⟩ := hsub p b hI hb
      refine ⟨?_, h1⟩
      rcases h2 with ⟨q, _, hf⟩ | h2
      · exact (h.within q b hf).1
      · omega
    · rw [(hs p hI).2] at hb
      have := h.within p b hb
      exact ⟨this.1, Nat.lt_of_lt_of_le this.2 hm.size⟩
  · have key : ∀ p q, I p → ¬ I q → F' p b → F' q b → False := fun p q hp hq h1 h2 => by
      rw [(hs q hq).2] at h2
      have hl := (h.within q b h2).2
      rcases (hsub p b hp h1).2 with ⟨r, hr, hf⟩ | h3
      · exact hq (by rw [h.apart q r b h2 hf]; exact hr)
      · omega
    by_cases hIp : I p
    · by_cases hIq : I q
      · exact hd p q b hIp hIq hp hq
      · exact (key p q hIp hIq hp hq).elim
    · by_cases hIq : I q
      · exact (key q p hIq hIp hq hp).elim
      · rw [(hs p hIp).2] at hp
        rw [(hs q hIq).2] at hq
        exact h.apart p q b hp hq
/-- Nothing of the parts is written. -/
theorem SepF.still {w0 w w' : World} {Φ : Part → Res} {F : Part → Nat → Prop} (h : SepF w0 w Φ F) (hm : Mv (fun _ => False) w w') : SepF w0 w' Φ F :=
  h.go (fun _ => False) (fun _ _ => ⟨rfl, rfl⟩) (fun _ hp => hp.elim) (hm.mono fun _ _ h => h.elim) (fun _ _ hp => hp.elim) (fun _ _ _ hp => hp.elim)

def empRes : Res := ⟨fun _ F => ∀ b, ¬ F b, fun h _ _ _ => h⟩
theorem NetIs.keep {w w' : World} {own : Own} {A : Ga} {N : Nt} (h : NetIs w own A N) (hs : w.heap.size ≤ w'.heap.size) (hk : ∀ b t, own b = some t → w'.heap[b]? = w.heap[b]?) : NetIs w' own A N := by
  obtain ⟨h0, cap, fv, lv, h1, h2, h3, h4, h5⟩ := h
  exact ⟨h0.mono hs, cap, fv, lv, ⟨h1.1, (hk _ _ h1.1).trans h1.2⟩, h2.keep (fun ho => ⟨ho, hk _ _ ho⟩), h3.keep (fun b hb => ⟨hb, hk _ _ hb⟩),
    h4.keep (fun b hb => ⟨rfl, by rcases hb with hb | hb <;> exact hk _ _ hb⟩), fun i hi => (h5 i hi).keep fun b t hb _ => ⟨hb, hk _ _ hb⟩⟩
def netRes (A : Ga) (N : Nt) : Res := ⟨fun w F => ∃ own, NetIs w own A N ∧ ∀ b, F b ↔ own b ≠ none, fun ⟨own, h1, h2⟩ _ hs hk => ⟨own, h1.keep hs (fun b t hb => hk b ((h2 b).2 (by rw [hb]; simp))), h2⟩⟩
def refRes (G : Nat) (R : Rf) : Res := ⟨fun w F => ∃ own, RefIs w own G R ∧ ∀ b, F b ↔ own b ≠ none, fun ⟨own, h1, h2⟩ _ hs hk => ⟨own, h1.keep (h1.1.mono hs) (fun b t hb => ⟨hb, hk b ((h2 b).2 (by rw [hb]; simp))⟩), h2⟩⟩

/-! ### the book -/
inductive BTag where
  | play | book | row | dat
abbrev BOwn := Nat → Option BTag
/-- A list that was answered, the same with one more, and the mark in both. -/
structure Hd where
  a : Option Addr
  n : Nat
  c : Nat
  a' : Option Addr
  c' : Nat
  mark : Int
def Hd.cells (h : Hd) : List Value := [.slice h.a h.n h.c, .slice h.a' (h.n + 1) h.c', .int .u8 h.mark]
def hdCells (H : List Hd) : List Value := H.flatMap Hd.cells
def HdIs (w : World) (own : BOwn) (h : Hd) : Prop :=
  RowIn w h.a h.n (List.replicate h.n h.mark) ∧ RowIn w h.a' (h.n + 1) (List.replicate (h.n + 1) h.mark) ∧ (h.n ≠ 0 → ∀ ad, h.a = some ad → own ad.block = some .dat) ∧ ∀ ad, h.a' = some ad → own ad.block = some .dat

structure Side where
  A : Ga
  N : Nt
  G : Nat
  R : Rf
def pA : Option Side → Value
  | none => .pointer none
  | some s => .pointer (some ⟨s.A.net, 0, none⟩)
def pR : Option Side → Value
  | none => .pointer none
  | some s => .pointer (some ⟨s.G, 0, none⟩)
def BookIs (w : World) (own : BOwn) (pb bb : Nat) (st : Nat → Option Side) (H : List Hd) : Prop :=
  (∀ b t, own b = some t → b < w.heap.size) ∧ own pb = some .play ∧ w.heap[pb]? = some (.cells #[pA (st 0), pA (st 1), pR (st 0), pR (st 1), .bool (st 0).isSome, .bool (st 1).isSome, .pointer (some ⟨bb, 0, none⟩)] 40 (0, 0)) ∧
    own bb = some .book ∧ ∃ lv, w.heap[bb]? = some (.cells #[lv] 89 (0, 0)) ∧ w.ownsRow 0 124 3 lv H.length (hdCells H) ∧ (∀ b, lv.ownBlock = some b → own b = some .row) ∧ ∀ h ∈ H, HdIs w own h
theorem HdIs.keep {w w' : World} {own own' : BOwn} {h : Hd} (hh : HdIs w own h) (hk : ∀ b, own b = some .dat → own' b = some .dat ∧ w'.heap[b]? = w.heap[b]?) : HdIs w' own' h := by
  obtain ⟨h1, h2, h3, h4⟩ := hh
  refine ⟨?_, h2.keep fun ad ha => (hk _ (h4 ad ha)).2, fun h0 ad ha => (hk _ (h3 h0 ad ha)).1, fun ad ha => (hk _ (h4 ad ha)).1⟩
  by_cases h0 : h.n = 0
  · exact ⟨h1.1, .inl h0⟩
  · exact h1.keep fun ad ha => (hk _ (h3 h0 ad ha)).2
theorem BookIs.keep {w w' : World} {own : BOwn} {pb bb : Nat} {st : Nat → Option Side} {H : List Hd} (h : BookIs w own pb bb st H) (hs : w.heap.size ≤ w'.heap.size) (hk : ∀ b t, own b = some t → w'.heap[b]? = w.heap[b]?) : BookIs w' own pb bb st H := by
  obtain ⟨h0, h1, h2, h3, lv, h4, h5, h6, h7⟩ := h
  exact ⟨fun b t hb => Nat.lt_of_lt_of_le (h0 b t hb) hs, h1, (hk _ _ h1).trans h2, h3, lv, (hk _ _ h3).trans h4, ownsRow_keep h5 (fun b hb => hk _ _ (h6 b hb)), h6, fun x hx => (h7 x hx).keep fun b hb => ⟨hb, hk _ _ hb⟩⟩
def bookRes (pb bb : Nat) (st : Nat → Option Side) (H : List Hd) : Res :=
  ⟨fun w F => ∃ own, BookIs w own pb bb st H ∧ ∀ b, F b ↔ own b ≠ none, fun ⟨own, h1, h2⟩ _ hs hk => ⟨own, h1.keep hs (fun b t hb => hk b ((h2 b).2 (by rw [hb]; simp))), h2⟩⟩
def sideNet : Option Side → Res
  | none => empRes
  | some s => netRes s.A s.N
def sideRef : Option Side → Res
  | none => empRes
  | some s => refRes s.G s.R
def resOf (pb bb : Nat) (st : Nat → Option Side) (H : List Hd) (hand : Res) : Part → Res
  | .net k => sideNet (st k)
  | .ref k => sideRef (st k)
  | .book => bookRes pb bb st H
  | .hand => hand
/-- THE WHOLE. -/
def PlaySep (w0 w : World) (pb bb : Nat) (st : Nat → Option Side) (H : List Hd) (hand : Res) : Prop := ∃ F, SepF w0 w (resOf pb bb st H hand) F
theorem PlaySep.still {w0 w w' : World} {pb bb : Nat} {st : Nat → Option Side} {H : List Hd} {hand : Res} (h : PlaySep w0 w pb bb st H hand) (hm : Mv (fun _ => False) w w') : PlaySep w0 w' pb bb st H hand := by
  obtain ⟨F, h⟩ := h
  exact ⟨F, h.still hm⟩
theorem PlaySep.below {w0 w : World} {pb bb : Nat} {st : Nat → Option Side} {H : List Hd} {hand : Res} (h : PlaySep w0 w pb bb st H hand) : Below w0.heap.size w0 w := by
  obtain ⟨F, h⟩ := h
  exact h.mv.below
end Go.Proofs.Ytadalodjnbnjkaa

/- The book: unspoilt and kept. -/
namespace Go.Proofs.Ytadalodjnbnjkaa
open Go.RowKit Go.Conc

theorem hdCells_get : ∀ (H : List Hd) (k : Nat) (hk : k < H.length), (hdCells H)[k * 3]? = some (.slice H[k].a H[k].n H[k].c) ∧ (hdCells H)[k * 3 + 1]? = some (.slice H[k].a' (H[k].n + 1) H[k].c') ∧ (hdCells H)[k * 3 + 2]? = some (.int .u8 H[k].mark)
  | [], k, hk => absurd hk (by simp)
  | h :: H, 0, _ => ⟨rfl, rfl, rfl⟩
  | h :: H, k + 1, hk => by
    have := hdCells_get H k (by simpa using hk)
    have e : hdCells (h :: H) = .slice h.a h.n h.c :: .slice h.a' (h.n + 1) h.c' :: .int .u8 h.mark :: hdCells H := rfl
    rw [e, show (k + 1) * 3 = k * 3 + 3 by omega]
    exact this
theorem hdCells_length (H : List Hd) : (hdCells H).length = H.length * 3 := by
  induction H with
  | nil => rfl
  | cons h H ih =>
    have e : hdCells (h :: H) = .slice h.a h.n h.c :: .slice h.a' (h.n + 1) h.c' :: .int .u8 h.mark :: hdCells H := rfl
    rw [e]
    simp only [List.length_cons, ih]
    omega
theorem hdCells_snoc (H : List Hd) (h : Hd) : hdCells (H ++ [h]) = hdCells H ++ [.slice h.a h.n h.c, .slice h.a' (h.n + 1) h.c', .int .u8 h.mark] := by simp [hdCells, Hd.cells]
theorem hd_cells {w : World} {H : List Hd} {g c k : Nat} (h : w.ownsRow 0 124 3 (.slice (some ⟨g, 0, none⟩) H.length c) H.length (hdCells H)) (hk : k < H.length) :
    w.cell? ⟨g, k * 3, none⟩ = some (.slice H[k].a H[k].n H[k].c) ∧ w.cell? ⟨g, k * 3 + 1, none⟩ = some (.slice H[k].a' (H[k].n + 1) H[k].c') ∧ w.cell? ⟨g, k * 3 + 2, none⟩ = some (.int .u8 H[k].mark) := by
  obtain ⟨h1, h2, h3⟩ := hdCells_get H k hk
  have key : ∀ j u, (hdCells H)[j]? = some u → w.cell? ⟨g, j, none⟩ = some u := fun j u hj => by
    have := h.cells (g := g) rfl j u hj
    by_cases h0 : j = 0
    · subst h0; simpa [Addr.add] using this
    · simpa [Addr.add, h0] using this
  exact ⟨key _ _ h1, key _ _ h2, key _ _ h3⟩
theorem row_shape {w : World} {base : Nat} {e : TypeId} {size n : Nat} {v : Value} {xs : List Value} (h : w.ownsRow base e size v n xs) : ∃ a c, v = .slice a n c ∧ (0 < n → ∃ g, a = some ⟨g, 0, none⟩) := by
  rcases h.2 with ⟨rfl, rfl⟩ | ⟨g, cap, cur, rfl, _⟩
  · exact ⟨_, _, rfl, fun h => by omega⟩
  · exact ⟨_, _, rfl, fun _ => ⟨g, rfl⟩⟩
theorem BookIs.bound {w : World} {own : BOwn} {pb bb : Nat} {st : Nat → Option Side} {H : List Hd} (h : BookIs w own pb bb st H) : H.length ≤ maxLen := by
  obtain ⟨_, _, _, _, lv, _, h5, _⟩ := h
  rcases h5.2 with ⟨_, e⟩ | ⟨g, cap, cur, _, _, _, h1, h2, _⟩
  · rw [e]; exact Nat.zero_le _
  · exact Nat.le_trans h1 h2
theorem getD_replicate {n j : Nat} {x : Int} (h : j < n) : (List.replicate n x).getD j 0 = x := by
  rw [List.getD_eq_getElem?_getD, List.getElem?_replicate, if_pos h]
  rfl
theorem RowIn.rep {w : World} {a : Option Addr} {n j : Nat} {x : Int} (h : RowIn w a n (List.replicate n x)) (hj : j < n) : ∃ b off, a = some ⟨b, off, none⟩ ∧ w.cell? ⟨b, off + j, none⟩ = some (.int .u8 x) := by
  obtain ⟨b, off, h1, h2⟩ := h.2.resolve_left (by omega)
  have := h2 j hj
  rw [getD_replicate hj] at this
  exact ⟨b, off, h1, this⟩

set_option maxHeartbeats 1600000 in
theorem unspoilt_any (w : World) (g n m c : Nat) (hn : n ≤ m) (hm : m ≤ 2199023255552) (hc : ∀ j, n ≤ j → j < m → w.cell? ⟨g, j, none⟩ = some (.int .u8 199)) :
    Calls Try.prog 57 #[.slice (some ⟨g, 0, none⟩) m c, .int .i64 n] w fun e w' => e = .returned (.bool true) ∧ w' = w := by
  have HC := Lib.hid hc
  clear hc
  have b1 : (m : Int) ≤ 2199023255552 := by omega
  go_enter Try.func57, Try.ntmps57
  go_wp2_with fail
  go_loopw [5] (fun i wr => ∃ k : Nat, n ≤ k ∧ k ≤ m ∧ i = .int .i64 k ∧ wr = w) (fun i _ => m - (intOf i).toNat)
  case atStart => exact ⟨n, Nat.le_refl _, hn, rfl, rfl⟩
  case round =>
    obtain ⟨k, hnk, hk, rfl, rfl⟩ := hrel
    by_cases hlt : k < m
    · have hck := HC.out k hnk hlt
      have hkk : (k : Int) < m := by omega
      have hk0 : (0 : Int) ≤ k := by omega
      go_wp2_with fail
      go_roundw
      case rel => exact ⟨k + 1, by omega, by omega, by go_num, trivial⟩
      case measure => simp [intOf]; omega
    · have hge : ¬ (k : Int) < m := by omega
      go_wp2_with fail
      go_ret
      exact ⟨rfl, rfl⟩

set_option maxRecDepth 100000 in
set_option maxHeartbeats 3200000 in
theorem kept_any (w : World) (own : BOwn) (pb bb : Nat) (st : Nat → Option Side) (H : List Hd) (h : BookIs w own pb bb st H) (hs : ∀ h ∈ H, h.n ≤ 1099511627776) (hl : H.length ≤ 1099511627776) :
    Calls Try.prog 44 #[.pointer (some ⟨bb, 0, none⟩)] w fun e w' => e = .returned (.bool true) ∧ Below w.heap.size w w' := by
  obtain ⟨h0, h1, h2, h3, lv, h4, h5, h6, h7⟩ := id h
  obtain ⟨la, lc, rfl, hsome⟩ := row_shape h5
  have hbl := lt_of_heap h4
  obtain ⟨len, hlen⟩ : ∃ n, n = H.length := ⟨_, rfl⟩
  rw [← hlen] at h4 h5 hl hsome
  have HLEN := Lib.hid hlen
  have H4 := Lib.hid h4
  have H5 := Lib.hid h5
  have H7 := Lib.hid h7
  have HS := Lib.hid hs
  have HSOME := Lib.hid hsome
  have q0 : w.cell? ⟨bb, 0, none⟩ = some (.slice la len lc) := cell_of_heap h4 0 rfl
  have b1 : (len : Int) ≤ 1099511627776 := by omega
  clear h h0 h1 h2 h3 h4 h5 h6 h7 hlen hs hsome
  go_enter Try.func44, Try.ntmps44
  go_wp2_with fail
  go_loopw [3] (fun i wr => ∃ k : Nat, k ≤ len ∧ i = .int .i64 k ∧ Below w.heap.size w wr) (fun i _ => len - (intOf i).toNat)
  case atStart => exact ⟨0, Nat.zero_le _, rfl, Below.refl _ _⟩
  case round =>
    obtain ⟨k, hk, rfl, hbel⟩ := hrel
    have HB := Lib.hid hbel
    have p0 : wr.cell? ⟨bb, 0, none⟩ = some (.slice la len lc) := (hbel.cell (p := ⟨bb, 0, none⟩) hbl).trans q0
    by_cases hlt : k < len
    · have hkH : k < H.length := by rw [← HLEN.out]; exact hlt
      obtain ⟨g, rfl⟩ := HSOME.out (by omega)
      have hrow : w.ownsRow 0 124 3 (.slice (some ⟨g, 0, none⟩) H.length lc) H.length (hdCells H) := by
        have := H5.out
        rw [HLEN.out] at this
        exact this
      obtain ⟨c0, c1, c2⟩ := hd_cells hrow hkH
      obtain ⟨hi1, hi2, _, _⟩ := H7.out H[k] (List.getElem_mem hkH)
      have hn1 := HS.out H[k] (List.getElem_mem hkH)
      obtain ⟨x, hx⟩ : ∃ x, x = H[k] := ⟨_, rfl⟩
      rw [← hx] at c0 c1 c2 hi1 hi2 hn1
      obtain ⟨xa, xn, xc, xa', xc', m⟩ := x
      simp only at c0 c1 c2 hi1 hi2 hn1
      have hlt0 := World.block_lt_of_cell? w ⟨g, k * 3, none⟩ c0
      have d0 := (hbel.cell (p := ⟨g, k * 3, none⟩) hlt0).trans c0
      have d1 := (hbel.cell (p := ⟨g, k * 3 + 1, none⟩) hlt0).trans c1
      have d2 := (hbel.cell (p := ⟨g, k * 3 + 2, none⟩) hlt0).trans c2
      have hr1 := hi1.still (Mv.of_below hbel |>.below)
      have hr2 := hi2.still (Mv.of_below hbel |>.below)
      have hkk : (k : Int) < len := by omega
      have hk0 : (0 : Int) ≤ k := by omega
      have HX := Lib.hid hx
      clear c0 c1 c2 hi1 hi2 hx hrow hlt0
      go_wp2_with fail
      obtain ⟨wo, rfl⟩ : ∃ wo : World, wo = wr := ⟨_, rfl⟩
      obtain ⟨W, hW⟩ : ∃ W, W = wo.alloc (.cells #[.slice xa xn xc, .slice xa' (xn + 1) xc', .int .u8 m] 124) := ⟨_, rfl⟩
      rw [← hW]
      obtain ⟨B, hBe⟩ : ∃ B, B = wo.heap.size := ⟨_, rfl⟩
      have hb0 : W.heap[B]? = some (.cells #[.slice xa xn xc, .slice xa' (xn + 1) xc', .int .u8 m] 124 (0, 0)) := by rw [hW, hBe]; exact heap_alloc_new wo _
      have hbw : Below wo.heap.size wo W := by rw [hW]; exact (Below.refl _ _).alloc (Nat.le_refl _) _
      have hbW : Below w.heap.size w W := by rw [hW]; exact HB.out.alloc HB.out.size _
      have e0 : W.cell? ⟨B, 0, none⟩ = some (.slice xa xn xc) := cell_of_heap hb0 0 rfl
      have e1 : W.cell? ⟨B, 1, none⟩ = some (.slice xa' (xn + 1) xc') := cell_of_heap hb0 1 rfl
      have e2 : W.cell? ⟨B, 2, none⟩ = some (.int .u8 m) := cell_of_heap hb0 2 rfl
      have HR1 := Lib.hid (hr1.still hbw)
      have HR2 := Lib.hid (hr2.still hbw)
      have HBW := Lib.hid hbW
      have b2 : (xn : Int) ≤ 1099511627776 := by omega
      have hmm : (m != m) = false := by simp
      rw [← hBe]
      clear hW hBe hb0 hbw hbW hr1 hr2 d0 d1 d2 p0 hbel hn1
      go_loopw [5] (fun i wr => ∃ j : Nat, j ≤ xn ∧ i = .int .i64 j ∧ ∃ d, wr = W.drewN d) (fun i _ => xn - (intOf i).toNat)
      case atStart => exact ⟨0, Nat.zero_le _, rfl, 0, rfl⟩
      case round =>
        obtain ⟨j, hj, rfl, d, rfl⟩ := hrel
        by_cases hlj : j < xn
        · obtain ⟨b, off, rfl, hc⟩ := HR1.out.rep hlj
          have hjj : (j : Int) < xn := by omega
          have hj0 : (0 : Int) ≤ j := by omega
          go_wp2_with fail
          go_quiet (fail)
          go_wp2_with fail
          go_roundw
          case rel => exact ⟨j + 1, by omega, by go_num, _, rfl⟩
          case measure => simp [intOf]; omega
        · have hge : ¬ (j : Int) < xn := by omega
          go_wp2_with fail
          go_loopw [6] (fun i wr => ∃ j : Nat, j ≤ xn + 1 ∧ i = .int .i64 j ∧ ∃ d, wr = W.drewN d) (fun i _ => xn + 1 - (intOf i).toNat)
          case atStart => exact ⟨0, Nat.zero_le _, rfl, d, rfl⟩
          case round =>
            obtain ⟨q, hq, rfl, d2, rfl⟩ := hrel
            by_cases hlq : q < xn + 1
            · obtain ⟨b, off, rfl, hc⟩ := HR2.out.rep hlq
              have hjj : (q : Int) < (xn : Int) + 1 := by omega
              have hj0 : (0 : Int) ≤ q := by omega
              go_wp2_with fail
              go_quiet (fail)
              go_wp2_with fail
              go_roundw
              case rel => exact ⟨q + 1, by omega, by go_num, _, rfl⟩
              case measure => simp [intOf]; omega
            · have hge2 : ¬ (q : Int) < (xn : Int) + 1 := by omega
              go_wp2_with fail
              go_roundw
              case rel => exact ⟨k + 1, by omega, by go_num, ((Mv.of_below HBW.out).drewN d2).below⟩
              case measure => simp [intOf]; omega
    · have hge : ¬ (k : Int) < len := by omega
      go_wp2_with fail
      go_ret
      exact ⟨rfl, HB.out⟩
end Go.Proofs.Ytadalodjnbnjkaa
