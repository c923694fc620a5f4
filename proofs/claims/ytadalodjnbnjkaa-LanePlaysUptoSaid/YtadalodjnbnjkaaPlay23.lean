/- Calls on a side, with all parts of memory in sight: Any, Send. -/
import Derived.Test.YtadalodjnbnjkaaPlay21
import Derived.Test.YtadalodjnbnjkaaPlay22
import Derived.Deep.RegionHeld3
namespace Go.Proofs.Ytadalodjnbnjkaa
open Go.RowKit Go.Conc

section
variable {w0 w w' : World} {pb bb i k : Nat} {st : Nat → Option Side} {H : List Hd} {hand : Res} {s : Side}
/-! ### Any -/
def anyR (N : Nt) (zs : List Int) (t : Int) : Wr := match anyErr N.nl zs t with
  | some er => noWr N er
  | none => Nt.waitGo (zs.map Int.toNat) t.toNat N
theorem anyErr_none {nl : Nat} {zs : List Int} {t : Int} (h : anyErr nl zs t = none) : zs.length ≤ 64 ∧ (∀ z ∈ zs, 0 ≤ z ∧ z < nl) ∧ zs ≠ [] ∧ zs.Nodup ∧ 0 ≤ t ∧ t ≤ 65536 := by
  unfold anyErr at h
  by_cases h1 : 64 < zs.length
  · rw [if_pos h1] at h; cases h
  · rw [if_neg h1] at h
    by_cases h2 : zs.any (fun z => decide (z < 0 ∨ (nl : Int) ≤ z)) = true
    · rw [if_pos h2] at h; cases h
    · rw [if_neg h2] at h
      by_cases h3 : zs = [] ∨ ¬ zs.Nodup ∨ t < 0 ∨ 65536 < t
      · rw [if_pos h3] at h; cases h
      · refine ⟨by omega, fun z hz => ?_, fun e => h3 (.inl e), Classical.byContradiction fun e => h3 (.inr (.inl e)), by omega, by omega⟩
        have h4 : ¬ (z < 0 ∨ (nl : Int) ≤ z) := fun e => h2 (List.any_eq_true.2 ⟨z, hz, by simpa using e⟩)
        omega
theorem PN.anyR {N : Nt} (h : PN N k) (zs : List Int) (t : Int) : PN (anyR N zs t).net (k + 1) ∧ ∀ m, (anyR N zs t).msg = some m → m.length ≤ 1048576 := by
  unfold Go.Proofs.Ytadalodjnbnjkaa.anyR
  split
  · exact ⟨h.mono (by omega), fun m hm => by cases hm⟩
  · rename_i e
    exact h.wait _ (by have := anyErr_none e; omega)
theorem sep_any {lb lcap : Nat} {o : Obj} {zs : List Int} {n : Nat} (h : PlaySep w0 w pb bb st H (blkRes lb o)) (hs : st i = some s) (hp : PN s.N k) (hk : k ≤ 1048576) (t : Int) (hn : zs.length = n) (hnm : n ≤ 1099511627776) (hin : ∀ j, j < n → w.cell? ⟨lb, j, none⟩ = some (.int .i64 (zs.getD j 0))) :
    Calls Try.prog 26 #[.pointer (some ⟨s.A.net, 0, none⟩), .slice (some ⟨lb, 0, none⟩) n lcap, .int .i64 t] w fun e w' => ∃ a m c, e = .returned (.tuple #[.int .i64 (anyR s.N zs t).lane, .slice a m c, .int .i64 (anyR s.N zs t).err]) ∧
      m = ((anyR s.N zs t).msg.getD []).length ∧ PlaySep w0 w' pb bb (updS st i (some { s with N := (anyR s.N zs t).net })) H (pairRes lb o a m c ((anyR s.N zs t).msg.getD [])) := by
  obtain ⟨F, hF⟩ := h
  obtain ⟨own, hN, hb⟩ := hF.netAt hs
  obtain ⟨hgo, hgF⟩ : w.heap[lb]? = some o ∧ ∀ b, F .hand b ↔ b = lb := hF.hold .hand
  have hlo : own lb = none := by
    cases e : own lb with
    | none => rfl
    | some t => exact absurd (hF.apart (.net i) .hand lb ((hb lb).2 (by rw [e]; simp)) ((hgF lb).2 rfl)) (by simp)
  unfold anyR
  cases e : anyErr s.N.nl zs t with
  | some er =>
    refine (any_bad w own s.A s.N lb n lcap zs t er hN hp.nl hn hnm hin e).mono ?_
    rintro e w' ⟨rfl, hbel⟩
    have hmv := Mv.of_below hbel
    refine ⟨none, 0, 0, rfl, rfl, ?_⟩
    exact hF.netPair hs hb (N' := s.N) (own' := own) (hN.keep hbel.size fun b t hb => hbel.block b (hN.1 b t hb)) (hmv.mono fun _ _ e => e.elim) (Grows.refl _ _) (.inl ⟨rfl, rfl, rfl⟩) ⟨rfl, .inl rfl⟩ (fun b hb => by cases hb)
  | none =>
    obtain ⟨g1, g2, g3, g4, g5, g6⟩ := anyErr_none e
    have hmap : ∀ j, j < zs.length → ((zs.map Int.toNat).getD j 0 : Int) = zs.getD j 0 := fun j hj => by
      have hz := (g2 zs[j] (List.getElem_mem hj)).1
      rw [List.getD_eq_getElem?_getD, List.getD_eq_getElem?_getD, List.getElem?_map, List.getElem?_eq_getElem hj]
      show ((zs[j].toNat : Nat) : Int) = zs[j]
      exact Int.toNat_of_nonneg hz
    have hcall := any_ok w own s.A s.N t.toNat lb lcap (zs.map Int.toNat) hN (hp.fineR hk).fine
      (fun l hl => by obtain ⟨z, hz, rfl⟩ := List.mem_map.1 hl; have := g2 z hz; omega) hp.nl (by rw [List.length_map]; exact g1)
      (by rw [List.length_map]; exact List.length_pos_iff.2 g3)
      (List.pairwise_map.2 (List.Pairwise.imp_of_mem (fun {a b} ha hb' hab e2 => hab (by have := g2 a ha; have := g2 b hb'; omega)) g4)) (by omega) ⟨hlo, lt_of_heap hgo, fun j hj => by
        rw [List.length_map] at hj
        rw [hmap j hj]; exact hin j (by omega)⟩
    · rw [List.length_map, hn, Int.toNat_of_nonneg g5] at hcall
      refine hcall.mono ?_
      rintro e w' ⟨v, rfl, own', h1, h2, h3, h4⟩
      cases em : (Nt.waitGo (zs.map Int.toNat) t.toNat s.N).msg with
      | none =>
        rw [em] at h4
        have hv : v = .slice none 0 0 := h4
        subst hv
        exact ⟨none, 0, 0, rfl, rfl, hF.netPair hs hb h1 h2 h3 (.inl ⟨rfl, rfl, rfl⟩) ⟨rfl, .inl rfl⟩ (fun b hb => by cases hb)⟩
      | some m =>
        rw [em] at h4
        obtain ⟨g, hm, ho, hg⟩ : ∃ g, MsgAt w' g v m ∧ own' g = none ∧ (own g ≠ none ∨ w.heap.size ≤ g) := h4
        obtain ⟨c, rfl, hl⟩ := hm.lst
        obtain ⟨c', hv', hr⟩ := RowIn.of_msg hm
        exact ⟨some ⟨g, 0, none⟩, m.length, c, rfl, rfl, hF.netPair hs hb h1 h2 h3 hl hr fun b hbk => by cases hbk; exact ⟨hm.lt, ho, hg⟩⟩
theorem IntsIn.up {a : Option Addr} {zs : List Int} (h : IntsIn w0 a zs) (hb : Below w0.heap.size w0 w) : IntsIn w a zs := by
  rcases h with h | ⟨b, off, rfl, hc⟩
  · exact .inl h
  · refine .inr ⟨b, off, rfl, fun j hj => ?_⟩
    have := hc j hj
    exact (hb.cell (p := ⟨b, off + j, none⟩) (World.block_lt_of_cell? w0 _ this)).trans this
theorem sep_rany (h : PlaySep w0 w pb bb st H hand) (hs : st i = some s) {N : Nt} (hr : s.R = N.ref) (hp : PN N k) (hk : k ≤ 1048576) {a : Option Addr} {n c : Nat} {zs : List Int} (t : Int) (hn : zs.length = n) (hnm : n ≤ 1099511627776) (hin : IntsIn w0 a zs)
    (hlow : ∀ ad, zs ≠ [] → a = some ad → ad.block < w0.heap.size) :
    Calls Try.prog 60 #[.pointer (some ⟨s.G, 0, none⟩), .slice a n c, .int .i64 t] w fun e w' => ∃ v, e = .returned (.tuple #[.int .i64 (anyR N zs t).lane, v, .int .i64 (anyR N zs t).err]) ∧ RCame w0 w' pb bb (updS st i (some { s with R := (anyR N zs t).net.ref })) H hand (anyR N zs t).msg v := by
  have hbel := h.below
  obtain ⟨F, hF⟩ := id h
  obtain ⟨own, hN, hb⟩ := hF.refAt hs
  have hsame : updS st i (some { s with R := N.ref }) = st := by rw [← hr]; exact updS_self hs
  have hN' := hN
  rw [hr] at hN'
  have hcall := rAny_any w own s.G N a n c zs t hN' (hp.fineR hk) hn hnm (hin.up hbel) (fun ad h1 h2 => by
    have h3 := hlow ad h1 h2
    refine ⟨Nat.lt_of_lt_of_le h3 hbel.size, ?_⟩
    cases e : own ad.block with
    | none => rfl
    | some t => have := (hF.within (.ref i) ad.block ((hb _).2 (by rw [e]; simp))).1; omega)
  unfold anyR
  unfold RAny at hcall
  cases e : anyErr N.nl zs t with
  | some er =>
    simp only [e] at hcall ⊢
    refine hcall.mono ?_
    rintro e w' ⟨rfl, hm⟩
    exact ⟨_, rfl, by rw [show (noWr N er).net = N from rfl, hsame]; exact h.still hm, none, 0, 0, rfl, rfl, rfl, .inl rfl⟩
  | none =>
    simp only [e] at hcall ⊢
    refine hcall.mono ?_
    rintro e w' ⟨u, rfl, own', h1, h2, h3, h4⟩
    obtain ⟨F', hF', _⟩ := hF.refTurn hs hb h1 h2 h3
    refine ⟨u, rfl, ⟨F', hF'⟩, ?_⟩
    cases em : (Nt.waitGo (zs.map Int.toNat) t.toNat N).msg with
    | none =>
      rw [em] at h4
      exact ⟨none, 0, 0, h4, rfl, rfl, .inl rfl⟩
    | some m =>
      rw [em] at h4
      obtain ⟨a, c, hu, hrow, _⟩ : DatIs w' own' u m := h4
      exact ⟨a, m.length, c, hu, rfl, hrow⟩

/-! ### Send -/
def sendN (N : Nt) (x : Int) (m : List Int) : Nt := if 0 ≤ x ∧ x < N.nl then (if (N.lane x.toNat).closed then N else N.send x.toNat m) else N
theorem PN.sendN {N : Nt} (h : PN N k) (x : Int) {m : List Int} (hm : m.length ≤ 1048576) (hk : k ≤ 1048576) : PN (sendN N x m) (k + 1) := by
  unfold Go.Proofs.Ytadalodjnbnjkaa.sendN
  split
  · split
    · exact h.mono (by omega)
    · exact h.send (by omega) hm hk
  · exact h.mono (by omega)
theorem sep_send {g n cap : Nat} {o : Obj} {m : List Int} (h : PlaySep w0 w pb bb st H (blkRes g o)) (hs : st i = some s) (hp : PN s.N k) (hk : k ≤ 1048576) (x : Int) (hm : m.length = n) (hn : n ≤ 1048576) (hcap : n ≤ cap)
    (hc : ∀ j, j < n → w.cell? ⟨g, j, none⟩ = some (.int .u8 (m.getD j 0))) :
    Calls Try.prog 18 #[.pointer (some ⟨s.A.net, 0, none⟩), .int .i64 x, .slice (some ⟨g, 0, none⟩) n cap] w fun e w' => e = .returned (.int .i64 (closeE s.N x)) ∧ PlaySep w0 w' pb bb (updS st i (some { s with N := sendN s.N x m })) H (blkRes g o) := by
  obtain ⟨F, hF⟩ := id h
  obtain ⟨own1, hN1, hb⟩ := hF.netAt hs
  obtain ⟨hgo, hgF⟩ : w.heap[g]? = some o ∧ ∀ b, F .hand b ↔ b = g := hF.hold .hand
  have hmsg : own1 g = none := by
    cases e : own1 g with
    | none => rfl
    | some t => exact absurd (hF.apart (.net i) .hand g ((hb g).2 (by rw [e]; simp)) ((hgF g).2 rfl)) (by simp)
  unfold closeE sendN
  by_cases hx : 0 ≤ x ∧ x < s.N.nl
  · rw [if_pos hx, if_pos hx]
    have ex : ((x.toNat : Nat) : Int) = x := Int.toNat_of_nonneg hx.1
    by_cases hcl : (s.N.lane x.toNat).closed = true
    · rw [if_pos hcl, if_pos hcl]
      refine h.netSame hs fun own hN => ?_
      have := Send_closed w own s.A s.N x.toNat (.slice (some ⟨g, 0, none⟩) n cap) hN (by omega) hcl
      rw [ex] at this
      exact this
    · rw [if_neg hcl, if_neg hcl]
      have hin : MsgIn w own1 ⟨g, 0, none⟩ m := ⟨hmsg, lt_of_heap hgo, fun j u hj => by
        rw [add_zero_block]
        have hjl : j < m.length := by have := (List.getElem?_eq_some_iff.1 hj).1; simpa [ub] using this
        have e : (ub m)[j]? = some (.int .u8 (m.getD j 0)) := by
          unfold ub
          rw [List.getElem?_map, List.getD_eq_getElem?_getD, List.getElem?_eq_getElem hjl]
          rfl
        rw [e] at hj
        cases hj
        exact hc j (by omega)⟩
      have := Send_ok w own1 s.A s.N x.toNat ⟨g, 0, none⟩ n cap m hN1 (hp.fit hk) (by omega) (by simpa using hcl) hm hn hcap hin
      rw [ex] at this
      refine this.mono ?_
      rintro e w' ⟨rfl, own', h1, h2, h3⟩
      obtain ⟨F', hF', _⟩ := hF.netTurn hs hb h1 h2 h3
      exact ⟨rfl, F', hF'⟩
  · rw [if_neg hx, if_neg hx]
    exact h.netSame hs fun own hN => Send_noLane w own s.A s.N x _ hN (by omega)
theorem sep_rsend (h : PlaySep w0 w pb bb st H hand) (hs : st i = some s) {N : Nt} (hr : s.R = N.ref) (hp : PN N k) (hk : k ≤ 1048576) {a : Option Addr} {n c : Nat} {m : List Int} (x : Int) (hn : n ≤ 1048576) (hrow : RowIn w0 a n m) (hlow : ∀ ad, n ≠ 0 → a = some ad → ad.block < w0.heap.size) :
    Calls Try.prog 56 #[.pointer (some ⟨s.G, 0, none⟩), .int .i64 x, .slice a n c] w fun e w' => e = .returned (.int .i64 (closeE N x)) ∧ PlaySep w0 w' pb bb (updS st i (some { s with R := (sendN N x m).ref })) H hand := by
  have hbel := h.below
  obtain ⟨F, hF⟩ := id h
  obtain ⟨own1, hN1, hb⟩ := hF.refAt hs
  rw [hr] at hN1
  have hmsg : MsgOf w own1 a n m := ⟨hrow.still hbel, fun h1 ad h2 => by
    have h3 := hlow ad h1 h2
    refine ⟨Nat.lt_of_lt_of_le h3 hbel.size, ?_⟩
    cases e : own1 ad.block with
    | none => rfl
    | some t => have := (hF.within (.ref i) ad.block ((hb _).2 (by rw [e]; simp))).1; omega⟩
  unfold closeE sendN
  by_cases hx : 0 ≤ x ∧ x < N.nl
  · rw [if_pos hx, if_pos hx]
    have ex : ((x.toNat : Nat) : Int) = x := Int.toNat_of_nonneg hx.1
    have hi : x.toNat < N.ref.nl := by show x.toNat < N.nl; omega
    by_cases hcl : (N.lane x.toNat).closed = true
    · rw [if_pos hcl, if_pos hcl, ← hr]
      refine h.refSame hs fun own hN => ?_
      rw [hr] at hN
      have := rSend_shut hN x.toNat (.slice a n c) hi hcl
      rw [ex] at this
      exact this
    · rw [if_neg hcl, if_neg hcl]
      have := rSend_ok w own1 s.G N.ref x.toNat a n c m hN1 hi (show (N.lane x.toNat).closed = false by simpa using hcl) hn hmsg (hp.fit hk).may (hp.fit hk).now (hp.fit hk).later (hp.fit hk).sent
      rw [ex, ← ref_send] at this
      refine this.mono ?_
      rintro e w' ⟨rfl, own', h1, h2, h3⟩
      obtain ⟨F', hF', _⟩ := hF.refTurn hs hb h1 h2 h3
      exact ⟨rfl, F', hF'⟩
  · rw [if_neg hx, if_neg hx, ← hr]
    refine h.refSame hs fun own hN => ?_
    rw [hr] at hN
    exact rSend_noLane hN x _ (by show x < 0 ∨ (N.nl : Int) ≤ x; omega)
end
end Go.Proofs.Ytadalodjnbnjkaa

/- What a played script keeps; an Op as it lies. -/
namespace Go.Proofs.Ytadalodjnbnjkaa
open Go.RowKit Go.Conc

/-- Behind k steps. -/
def Inv (w0 w : World) (pb bb : Nat) (st : Nat → Option Side) (H : List Hd) (k : Nat) : Prop :=
  PlaySep w0 w pb bb st H empRes ∧ (∀ i s, st i = some s → s.R = s.N.ref ∧ PN s.N k) ∧ H.length ≤ k ∧ ∀ x ∈ H, x.n ≤ 1048576
structure OpV where
  kind : Int
  net : Int
  lane : Int
  ticks : Int
  la : Option Addr
  ln : Nat
  lc : Nat
  zs : List Int
  da : Option Addr
  dn : Nat
  dc : Nat
  m : List Int
def OpV.val (o : OpV) : Value := .agg #[.int .i64 o.kind, .int .i64 o.net, .int .i64 o.lane, .int .i64 o.ticks, .slice o.la o.ln o.lc, .slice o.da o.dn o.dc]
def OpV.lies (w0 : World) (o : OpV) : Prop := IntsIn w0 o.la o.zs ∧ o.zs.length = o.ln ∧ o.ln ≤ 1048576 ∧ RowIn w0 o.da o.dn o.m ∧ o.dn ≤ 1048576
theorem OpV.lies.lanesLow {w0 : World} {o : OpV} (h : o.lies w0) : ∀ ad, o.zs ≠ [] → o.la = some ad → ad.block < w0.heap.size := fun ad h1 h2 => by
  rcases h.1 with h3 | ⟨b, off, h3, hc⟩
  · exact absurd h3 h1
  · rw [h3] at h2
    cases h2
    exact World.block_lt_of_cell? w0 ⟨b, off + 0, none⟩ (hc 0 (List.length_pos_iff.2 h1))
theorem OpV.lies.dataLow {w0 : World} {o : OpV} (h : o.lies w0) : ∀ ad, o.dn ≠ 0 → o.da = some ad → ad.block < w0.heap.size := fun ad h1 h2 => by
  rcases h.2.2.2.1.2 with h3 | ⟨b, off, h3, hc⟩
  · exact absurd h3 h1
  · rw [h3] at h2
    cases h2
    exact World.block_lt_of_cell? w0 ⟨b, off + 0, none⟩ (hc 0 (by omega))
section
variable {w0 w w' : World} {pb bb i k : Nat} {st : Nat → Option Side} {H : List Hd} {hand : Res} {s : Side}
theorem PlaySep.play (h : PlaySep w0 w pb bb st H hand) : w.heap[pb]? = some (.cells #[pA (st 0), pA (st 1), pR (st 0), pR (st 1), .bool (st 0).isSome, .bool (st 1).isSome, .pointer (some ⟨bb, 0, none⟩)] 40 (0, 0)) := by
  obtain ⟨F, hF⟩ := h
  obtain ⟨own, hB, _⟩ := hF.bookAt
  exact hB.2.2.1
theorem PlaySep.playCells (h : PlaySep w0 w pb bb st H hand) (hi : i < 2) (hs : st i = some s) :
    w.cell? ⟨pb, i, none⟩ = some (.pointer (some ⟨s.A.net, 0, none⟩)) ∧ w.cell? ⟨pb, 2 + i, none⟩ = some (.pointer (some ⟨s.G, 0, none⟩)) ∧ w.cell? ⟨pb, 4 + i, none⟩ = some (.bool true) ∧ w.cell? ⟨pb, 6, none⟩ = some (.pointer (some ⟨bb, 0, none⟩)) := by
  have hp := h.play
  rcases (show i = 0 ∨ i = 1 by omega) with rfl | rfl
  · rw [hs] at hp
    exact ⟨cell_of_heap hp 0 rfl, cell_of_heap hp 2 rfl, cell_of_heap hp 4 rfl, cell_of_heap hp 6 rfl⟩
  · rw [hs] at hp
    exact ⟨cell_of_heap hp 1 rfl, cell_of_heap hp 3 rfl, cell_of_heap hp 5 rfl, cell_of_heap hp 6 rfl⟩
theorem PlaySep.playOff (h : PlaySep w0 w pb bb st H hand) (hi : i < 2) (hs : st i = none) : w.cell? ⟨pb, 4 + i, none⟩ = some (.bool false) := by
  have hp := h.play
  rcases (show i = 0 ∨ i = 1 by omega) with rfl | rfl
  · rw [hs] at hp
    exact cell_of_heap hp 4 rfl
  · rw [hs] at hp
    exact cell_of_heap hp 5 rfl
theorem updS_twice (st : Nat → Option Side) (i : Nat) (a b : Option Side) : updS (updS st i a) i b = updS st i b := by
  funext j
  by_cases e : j = i
  · subst e; rw [updS_same, updS_same]
  · rw [updS_other _ _ e, updS_other _ _ e, updS_other _ _ e]
/-- Both nets of side i have gone on alike. -/
theorem Inv.step (h : Inv w0 w pb bb st H k) (hs : st i = some s) {N' : Nt} (hp : PN N' (k + 1)) {H' : List Hd} (h' : PlaySep w0 w' pb bb (updS st i (some ⟨s.A, N', s.G, N'.ref⟩)) H' empRes) (hH : H'.length ≤ k + 1) (hh : ∀ x ∈ H', x.n ≤ 1048576) :
    Inv w0 w' pb bb (updS st i (some ⟨s.A, N', s.G, N'.ref⟩)) H' (k + 1) := by
  refine ⟨h', fun j t ht => ?_, hH, hh⟩
  by_cases e : j = i
  · subst e
    rw [updS_same] at ht
    cases ht
    exact ⟨rfl, hp⟩
  · rw [updS_other _ _ e] at ht
    obtain ⟨h1, h2⟩ := h.2.1 j t ht
    exact ⟨h1, h2.mono (by omega)⟩
theorem Inv.same (h : Inv w0 w pb bb st H k) (hm : Mv (fun _ => False) w w') : Inv w0 w' pb bb st H (k + 1) :=
  ⟨h.1.still hm, fun j t ht => ⟨(h.2.1 j t ht).1, (h.2.1 j t ht).2.mono (by omega)⟩, by have := h.2.2.1; omega, h.2.2.2⟩
end
end Go.Proofs.Ytadalodjnbnjkaa

/- does, walked: which side; the side that is off; Pass, Now. -/
namespace Go.Proofs.Ytadalodjnbnjkaa
open Go.RowKit Go.Conc

theorem side_of (x : Int) : ∃ i : Nat, i < 2 ∧ bits BinOp.and IntKind.i64 x 1 = (i : Int) := by
  refine ⟨(BitVec.ofInt 64 x).toNat % 2, by omega, ?_⟩
  have h2 : (BitVec.ofInt 64 1).toNat = 1 := by decide
  show IntKind.i64.wrap ((BitVec.ofInt 64 x &&& BitVec.ofInt 64 1).toNat : Int) = _
  rw [BitVec.toNat_and, h2, Nat.and_one_is_mod]
  exact IntWalk.i64_in _ (by omega)

def Does (w0 : World) (pb bb : Nat) (k : Nat) (e : Ending) (w' : World) : Prop :=
  e = .returned (.bool true) ∧ ∃ st' H', Inv w0 w' pb bb st' H' (k + 1)
set_option maxRecDepth 100000 in
set_option maxHeartbeats 1600000 in
theorem does_off (w0 w : World) (pb bb k : Nat) (st : Nat → Option Side) (H : List Hd) (o : OpV) (h : Inv w0 w pb bb st H k) (i : Nat) (hi : i < 2) (hb : bits BinOp.and IntKind.i64 o.net 1 = (i : Int)) (hs : st i = none) :
    Calls Try.prog 43 #[.pointer (some ⟨pb, 0, none⟩), o.val] w (Does w0 pb bb k) := by
  obtain ⟨kind, net, lane, ticks, la, ln, lc, zs, da, dn, dc, m⟩ := o
  simp only [OpV.val] at hb ⊢
  have c4 := h.1.playOff hi hs
  have hpl := lt_of_heap h.1.play
  have hii : (i : Int) < 2 := by omega
  have hi0 : (0 : Int) ≤ i := by omega
  have HI := Lib.hid h
  clear h hs
  go_enter Try.func43, Try.ntmps43
  go_wp2_with fail
  go_ret
  exact ⟨rfl, st, H, HI.out.same ((Mv.refl _ _).alloc _)⟩
set_option maxRecDepth 100000 in
set_option maxHeartbeats 1600000 in
theorem does_now (w0 w : World) (pb bb k : Nat) (st : Nat → Option Side) (H : List Hd) (o : OpV) (s : Side) (h : Inv w0 w pb bb st H k) (i : Nat) (hi : i < 2) (hb : bits BinOp.and IntKind.i64 o.net 1 = (i : Int)) (hs : st i = some s) (hk : o.kind = 5) :
    Calls Try.prog 43 #[.pointer (some ⟨pb, 0, none⟩), o.val] w (Does w0 pb bb k) := by
  obtain ⟨kind, net, lane, ticks, la, ln, lc, zs, da, dn, dc, m⟩ := o
  simp only [OpV.val] at hb hk ⊢
  subst hk
  obtain ⟨c0, c2, c4, c6⟩ := h.1.playCells hi hs
  have hpl := lt_of_heap h.1.play
  have hii : (i : Int) < 2 := by omega
  have hi0 : (0 : Int) ≤ i := by omega
  have hn : ∀ W, Mv (fun _ => False) w W → Calls Try.prog 16 #[.pointer (some ⟨s.A.net, 0, none⟩)] W fun e w' => e = .returned (.int .i64 s.N.now) ∧ W = w' := fun W hW => sep_now (h.1.still hW) hs
  have hr : ∀ W, Mv (fun _ => False) w W → Calls Try.prog 53 #[.pointer (some ⟨s.G, 0, none⟩)] W fun e w' => e = .returned (.int .i64 s.N.now) ∧ W = w' := fun W hW => sep_rnow (h.1.still hW) hs (h.2.1 i s hs).1
  have HI := Lib.hid h
  have HN := Lib.hid hn
  have HRN := Lib.hid hr
  obtain ⟨nw, hnw⟩ : ∃ t : Nat, t = s.N.now := ⟨_, rfl⟩
  rw [← hnw] at HN HRN
  have hee : ((nw : Int) == nw) = true := by simp
  clear h hs hn hr hnw
  go_enter Try.func43, Try.ntmps43
  go_wp2_with fail
  obtain ⟨W1, hW1⟩ : ∃ W, W = w.alloc (.cells #[.int .i64 5, .int .i64 net, .int .i64 lane, .int .i64 ticks, .slice la ln lc, .slice da dn dc] 107) := ⟨_, rfl⟩
  rw [← hW1]
  have hmv : Mv (fun _ => False) w W1 := by rw [hW1]; exact (Mv.refl _ _).alloc _
  have d0 := (hmv.cell (p := ⟨pb, i, none⟩) hpl id).trans c0
  have d2 := (hmv.cell (p := ⟨pb, 2 + i, none⟩) hpl id).trans c2
  have HQ1 : ∀ d, Calls Try.prog 16 #[.pointer (some ⟨s.A.net, 0, none⟩)] (W1.drewN d) fun e w' => e = .returned (.int .i64 nw) ∧ W1.drewN d = w' := fun d => HN.out _ (hmv.drewN d)
  have HQ2 : ∀ d, Calls Try.prog 53 #[.pointer (some ⟨s.G, 0, none⟩)] (W1.drewN d) fun e w' => e = .returned (.int .i64 nw) ∧ W1.drewN d = w' := fun d => HRN.out _ (hmv.drewN d)
  have HH1 := Lib.hid HQ1
  have HH2 := Lib.hid HQ2
  have HMV := Lib.hid hmv
  clear hW1 hmv HQ1 HQ2 c0 c2 c4 c6
  go_quiet (first | (go_at_call 16; exact (HH1.out _).mono fun _ _ h => ⟨h.1, _, h.2.symm⟩) | (go_at_call 53; exact (HH2.out _).mono fun _ _ h => ⟨h.1, _, h.2.symm⟩))
  go_wp2_with fail
  go_ret
  exact ⟨rfl, st, H, HI.out.same (HMV.out.drewN _)⟩
end Go.Proofs.Ytadalodjnbnjkaa

/- What is in hand: some blocks as they are, and a list with what it reads. -/
namespace Go.Proofs.Ytadalodjnbnjkaa
open Go.RowKit Go.Conc

def handRes (O : Nat → Option Obj) (a : Option Addr) (n c : Nat) (l : List Int) : Res := ⟨fun w F => ((∀ b o, O b = some o → w.heap[b]? = some o ∧ ¬ Blk a b) ∧ LstIs w a n c ∧ RowIn w a n l) ∧ ∀ b, F b ↔ (O b ≠ none ∨ Blk a b), fun ⟨⟨h0, h1, h2⟩, h3⟩ _ _ h6 => by
  refine ⟨⟨fun b o hb => ⟨(h6 b ((h3 b).2 (.inl (by rw [hb]; simp)))).trans (h0 b o hb).1, (h0 b o hb).2⟩, ?_, ?_⟩, h3⟩
  · rcases h1 with h1 | ⟨g', cur, e, h7, h8⟩
    · exact .inl h1
    · exact .inr ⟨g', cur, e, (h6 g' ((h3 g').2 (.inr e))).trans h7, h8⟩
  · refine h2.keep fun ad had => ?_
    rcases h1 with ⟨e, _⟩ | ⟨g', cur, e, _⟩
    · rw [e] at had; cases had
    · rw [e] at had; cases had; exact h6 g' ((h3 g').2 (.inr e))⟩
section
variable {w0 w w' : World} {pb bb k : Nat} {st : Nat → Option Side} {H : List Hd} {s : Side} {O : Nat → Option Obj}
theorem PlaySep.toHand (h : PlaySep w0 w pb bb st H empRes) : PlaySep w0 w pb bb st H (handRes (fun _ => none) none 0 0 []) :=
  h.inHand fun _ hF => ⟨⟨fun b o hb => (by cases hb), .inl ⟨rfl, rfl, rfl⟩, rfl, .inl rfl⟩, fun b => ⟨fun hb => absurd hb (hF b), fun hb => by rcases hb with hb | hb; exact absurd rfl hb; cases hb⟩⟩
theorem PlaySep.handBlock {a : Option Addr} {n c b : Nat} {l : List Int} {o : Obj} (h : PlaySep w0 w pb bb st H (handRes O a n c l)) (hb : O b = some o) : w.heap[b]? = some o := by
  obtain ⟨F, hF⟩ := h
  exact ((hF.hold .hand).1.1 b o hb).1
theorem PlaySep.handMsg {a : Option Addr} {n c : Nat} {l : List Int} (h : PlaySep w0 w pb bb st H (handRes O a n c l)) : PlaySep w0 w pb bb st H (msgRes a n c l) := by
  obtain ⟨F, hF⟩ := h
  obtain ⟨⟨_, h1, h2⟩, h3⟩ : ((∀ b o, O b = some o → w.heap[b]? = some o ∧ ¬ Blk a b) ∧ LstIs w a n c ∧ RowIn w a n l) ∧ ∀ b, F .hand b ↔ (O b ≠ none ∨ Blk a b) := hF.hold .hand
  refine hF.handTurn (Fh := Blk a) (Mv.refl _ _) ⟨⟨h1, h2⟩, fun b => Iff.rfl⟩ (fun b hb => ?_)
  have := (h3 b).2 (.inr hb)
  exact ⟨(hF.within .hand b this).2, .inl this⟩
/-- One more block in hand. -/
theorem PlaySep.putHand {a : Option Addr} {n c g : Nat} {l : List Int} {o : Obj} (h : PlaySep w0 w pb bb st H (handRes O a n c l)) (hm : Mv (fun _ => False) w w') (hg : w.heap.size ≤ g) (ho : w'.heap[g]? = some o) :
    PlaySep w0 w' pb bb st H (handRes (fun b => if b = g then some o else O b) a n c l) := by
  obtain ⟨F1, hF1⟩ := h
  obtain ⟨⟨_, _, _⟩, g3⟩ : ((∀ b o, O b = some o → w.heap[b]? = some o ∧ ¬ Blk a b) ∧ LstIs w a n c ∧ RowIn w a n l) ∧ ∀ b, F1 .hand b ↔ (O b ≠ none ∨ Blk a b) := hF1.hold .hand
  have hF2 := hF1.still hm
  obtain ⟨⟨h0, h1, h2⟩, h3⟩ : ((∀ b o, O b = some o → w'.heap[b]? = some o ∧ ¬ Blk a b) ∧ LstIs w' a n c ∧ RowIn w' a n l) ∧ ∀ b, F1 .hand b ↔ (O b ≠ none ∨ Blk a b) := hF2.hold .hand
  have hag : ¬ Blk a g := fun e => by have := (hF1.within .hand g ((g3 g).2 (.inr e))).2; omega
  refine hF1.handTurn (Fh := fun b => b = g ∨ F1 .hand b) (hm.mono fun _ _ e => e.elim) ⟨⟨fun b o' hb => ?_, h1, h2⟩, fun b => ?_⟩ (fun b hb => ?_)
  · by_cases e : b = g
    · subst e
      simp only [if_pos] at hb
      cases hb
      exact ⟨ho, hag⟩
    · simp only [if_neg e] at hb
      exact h0 b o' hb
  · by_cases e : b = g
    · subst e; simp
    · simp only [e, false_or]; exact h3 b
  · rcases hb with rfl | hb
    · exact ⟨lt_of_heap ho, .inr hg⟩
    · have := (hF1.within .hand b hb).2
      exact ⟨Nat.lt_of_lt_of_le this hm.size, .inl hb⟩
/-- A call on net k that gives a message out, blocks in hand. -/
theorem SepF.netHand {F : Part → Nat → Prop} (h : SepF w0 w (resOf pb bb st H (handRes O none 0 0 [])) F) (hs : st k = some s) {own own' : Own} {N' : Nt} (hF : ∀ b, F (.net k) b ↔ own b ≠ none) (hN : NetIs w' own' s.A N') (hm : Mv own.has w w') (hg : Grows w.heap.size own own')
    {a : Option Addr} {n c : Nat} {l : List Int} (hl : LstIs w' a n c) (hr : RowIn w' a n l) (hla : ∀ b, Blk a b → b < w'.heap.size ∧ own' b = none ∧ (own b ≠ none ∨ w.heap.size ≤ b)) :
    PlaySep w0 w' pb bb (updS st k (some { s with N := N' })) H (handRes O a n c l) := by
  classical
  obtain ⟨⟨hO, _, _⟩, hOF⟩ : ((∀ b o, O b = some o → w.heap[b]? = some o ∧ ¬ Blk none b) ∧ LstIs w none 0 0 ∧ RowIn w none 0 []) ∧ ∀ b, F .hand b ↔ (O b ≠ none ∨ Blk none b) := h.hold .hand
  have hon : ∀ b, O b ≠ none → own b = none ∧ b < w.heap.size := fun b hb => by
    have hfb := (hOF b).2 (.inl hb)
    refine ⟨?_, (h.within .hand b hfb).2⟩
    cases e : own b with
    | none => rfl
    | some t => exact absurd (h.apart (.net k) .hand b ((hF b).2 (by rw [e]; simp)) hfb) (by simp)
  have hag : ∀ b, O b ≠ none → ¬ Blk a b := fun b hb e => by
    obtain ⟨q1, q2⟩ := hon b hb
    rcases (hla b e).2.2 with e2 | e2
    · exact e2 q1
    · omega
  have hgo' : ∀ b o, O b = some o → w'.heap[b]? = some o := fun b o hb => by
    obtain ⟨q1, q2⟩ := hon b (by rw [hb]; simp)
    exact (hm.block b q2 (fun e => e q1)).trans (hO b o hb).1
  refine ⟨fun p => if p = .net k then fun b => own' b ≠ none else if p = .hand then fun b => O b ≠ none ∨ Blk a b else F p, h.go (fun p => p = .net k ∨ p = .hand) (fun p hp => ?_) (fun p hp => ?_) (hm.mono fun b _ hb => ⟨.net k, .inl rfl, (hF b).2 hb⟩) (fun p b hp hb => ?_) (fun p q b hp hq h1 h2 => ?_)⟩
  · have e1 : p ≠ .net k := fun e => hp (.inl e)
    have e2 : p ≠ .hand := fun e => hp (.inr e)
    refine ⟨?_, by rw [if_neg e1, if_neg e2]⟩
    rw [resOf_net hs N' e1]
    cases p <;> first | rfl | exact absurd rfl e2
  · rcases hp with rfl | rfl
    · simp only [resOf, updS_same, sideNet, netRes, if_pos]
      exact ⟨own', hN, fun b => Iff.rfl⟩
    · exact ⟨⟨fun b o hb => ⟨hgo' b o hb, hag b (by rw [hb]; simp)⟩, hl, hr⟩, fun b => by rw [if_neg (by simp), if_pos rfl]⟩
  · rcases hp with rfl | rfl
    · simp only [if_pos] at hb
      obtain ⟨t, ht⟩ := Option.ne_none_iff_exists'.1 hb
      refine ⟨hN.1 b t ht, ?_⟩
      rcases Nat.lt_or_ge b w.heap.size with hl | hl
      · exact .inl ⟨.net k, .inl rfl, (hF b).2 fun e => hb (hg b hl e)⟩
      · exact .inr hl
    · rw [if_neg (by simp), if_pos rfl] at hb
      rcases hb with hb | hb
      · exact ⟨Nat.lt_of_lt_of_le (hon b hb).2 hm.size, .inl ⟨.hand, .inr rfl, (hOF b).2 (.inl hb)⟩⟩
      · obtain ⟨q1, _, q3⟩ := hla b hb
        exact ⟨q1, q3.imp (fun e => ⟨.net k, .inl rfl, (hF b).2 e⟩) id⟩
  · have key : ∀ b, own' b ≠ none → (O b ≠ none ∨ Blk a b) → False := fun b e1 e2 => by
      rcases e2 with e2 | e2
      · obtain ⟨q1, q2⟩ := hon b e2
        exact e1 (hg b q2 q1)
      · exact e1 (hla b e2).2.1
    rcases hp with rfl | rfl <;> rcases hq with rfl | rfl
    · rfl
    · rw [if_neg (by simp), if_pos rfl] at h2
      simp only [if_pos] at h1
      exact (key b h1 h2).elim
    · rw [if_neg (by simp), if_pos rfl] at h1
      simp only [if_pos] at h2
      exact (key b h2 h1).elim
    · rfl
end
end Go.Proofs.Ytadalodjnbnjkaa

/- Wait, with blocks in hand. -/
namespace Go.Proofs.Ytadalodjnbnjkaa
open Go.RowKit Go.Conc

section
variable {w0 w w' : World} {pb bb i k : Nat} {st : Nat → Option Side} {H : List Hd} {s : Side} {O : Nat → Option Obj}
/-- What came, in hand: the list m (or none). -/
def CameO (w0 w : World) (pb bb : Nat) (st : Nat → Option Side) (H : List Hd) (O : Nat → Option Obj) (o : Option (List Int)) (v : Value) : Prop :=
  ∃ a n c, v = .slice a n c ∧ n = (o.getD []).length ∧ PlaySep w0 w pb bb st H (handRes O a n c (o.getD []))
theorem sep_tookO {f : FuncId} {args : Array Value} {mk : Value → Ending} {R : Wr} (h : PlaySep w0 w pb bb st H (handRes O none 0 0 [])) (hs : st i = some s)
    (hc : ∀ own, NetIs w own s.A s.N → Calls Try.prog f args w fun e w' => ∃ v, e = mk v ∧ ∃ own', NetIs w' own' s.A R.net ∧ Mv own.has w w' ∧ Grows w.heap.size own own' ∧
      match R.msg with
      | none => v = .slice none 0 0
      | some m => ∃ g, MsgAt w' g v m ∧ own' g = none ∧ (own g ≠ none ∨ w.heap.size ≤ g)) :
    Calls Try.prog f args w fun e w' => ∃ v, e = mk v ∧ CameO w0 w' pb bb (updS st i (some { s with N := R.net })) H O R.msg v := by
  obtain ⟨F, hF⟩ := h
  obtain ⟨own, hN, hb⟩ := hF.netAt hs
  refine (hc own hN).mono ?_
  rintro e w' ⟨v, rfl, own', h1, h2, h3, h4⟩
  refine ⟨v, rfl, ?_⟩
  cases em : R.msg with
  | none =>
    rw [em] at h4
    have hv : v = .slice none 0 0 := h4
    exact ⟨none, 0, 0, hv, rfl, hF.netHand hs hb h1 h2 h3 (.inl ⟨rfl, rfl, rfl⟩) ⟨rfl, .inl rfl⟩ (fun b hb => by cases hb)⟩
  | some m =>
    rw [em] at h4
    obtain ⟨g, hm, ho, hg⟩ : ∃ g, MsgAt w' g v m ∧ own' g = none ∧ (own g ≠ none ∨ w.heap.size ≤ g) := h4
    obtain ⟨c, hv, hl⟩ := hm.lst
    obtain ⟨c', hv', hr⟩ := RowIn.of_msg hm
    exact ⟨some ⟨g, 0, none⟩, m.length, c, hv, rfl, hF.netHand hs hb h1 h2 h3 hl hr fun b hbk => by cases hbk; exact ⟨hm.lt, ho, hg⟩⟩
theorem sep_noneO {f : FuncId} {args : Array Value} {mk : Value → Ending} (h : PlaySep w0 w pb bb st H (handRes O none 0 0 [])) (hs : st i = some s)
    (hc : ∀ own, NetIs w own s.A s.N → Calls Try.prog f args w fun e w' => e = mk (.slice none 0 0) ∧ Below w.heap.size w w') :
    Calls Try.prog f args w fun e w' => ∃ v, e = mk v ∧ CameO w0 w' pb bb (updS st i (some { s with N := s.N })) H O none v := by
  obtain ⟨F, hF⟩ := id h
  obtain ⟨own, hN, hb⟩ := hF.netAt hs
  refine (hc own hN).mono ?_
  rintro e w' ⟨rfl, hbel⟩
  rw [updS_self hs]
  exact ⟨_, rfl, none, 0, 0, rfl, rfl, h.still (Mv.of_below hbel)⟩
theorem sep_waitO (h : PlaySep w0 w pb bb st H (handRes O none 0 0 [])) (hs : st i = some s) (hp : PN s.N k) (hk : k ≤ 1048576) (x d : Int) :
    Calls Try.prog 19 #[.pointer (some ⟨s.A.net, 0, none⟩), .int .i64 x, .int .i64 d] w fun e w' => ∃ v, e = .returned (.tuple #[v, .int .i64 (waitR s.N x d).err]) ∧ CameO w0 w' pb bb (updS st i (some { s with N := (waitR s.N x d).net })) H O (waitR s.N x d).msg v := by
  unfold waitR
  by_cases hx : 0 ≤ x ∧ x < s.N.nl
  · rw [if_pos hx]
    have ex : ((x.toNat : Nat) : Int) = x := Int.toNat_of_nonneg hx.1
    by_cases hd : 0 ≤ d ∧ d ≤ 65536
    · rw [if_pos hd]
      refine sep_tookO (mk := fun v => .returned (.tuple #[v, .int .i64 (Nt.waitGo [x.toNat] d.toNat s.N).err])) h hs fun own hN => ?_
      have := Wait_ok w own s.A s.N x.toNat d.toNat hN (hp.fineR hk).fine (by omega) (by omega)
      rw [ex, Int.toNat_of_nonneg hd.1] at this
      exact this
    · rw [if_neg hd]
      refine sep_noneO (mk := fun v => .returned (.tuple #[v, .int .i64 1])) h hs fun own hN => ?_
      have := Wait_badTicks w own s.A s.N x.toNat d hN (by omega) (by omega)
      rw [ex] at this
      refine this.mono ?_
      rintro e w' ⟨rfl, rfl⟩
      exact ⟨rfl, Below.refl _ _⟩
  · rw [if_neg hx]
    refine sep_noneO (mk := fun v => .returned (.tuple #[v, .int .i64 192])) h hs fun own hN => ?_
    refine (Wait_noLane w own s.A s.N x _ hN (by omega)).mono ?_
    rintro e w' ⟨rfl, rfl⟩
    exact ⟨rfl, Below.refl _ _⟩
end
end Go.Proofs.Ytadalodjnbnjkaa

/- Any and Send, with blocks in hand. -/
namespace Go.Proofs.Ytadalodjnbnjkaa
open Go.RowKit Go.Conc
section
variable {w0 w w' : World} {pb bb i k : Nat} {st : Nat → Option Side} {H : List Hd} {s : Side} {O : Nat → Option Obj}
theorem sep_anyO {lb lcap : Nat} {o : Obj} {zs : List Int} {n : Nat} (h : PlaySep w0 w pb bb st H (handRes O none 0 0 [])) (hlb : O lb = some o) (hs : st i = some s) (hp : PN s.N k) (hk : k ≤ 1048576) (t : Int) (hn : zs.length = n) (hnm : n ≤ 1099511627776) (hin : ∀ j, j < n → w.cell? ⟨lb, j, none⟩ = some (.int .i64 (zs.getD j 0))) :
    Calls Try.prog 26 #[.pointer (some ⟨s.A.net, 0, none⟩), .slice (some ⟨lb, 0, none⟩) n lcap, .int .i64 t] w fun e w' => ∃ a m c, e = .returned (.tuple #[.int .i64 (anyR s.N zs t).lane, .slice a m c, .int .i64 (anyR s.N zs t).err]) ∧
      m = ((anyR s.N zs t).msg.getD []).length ∧ PlaySep w0 w' pb bb (updS st i (some { s with N := (anyR s.N zs t).net })) H (handRes O a m c ((anyR s.N zs t).msg.getD [])) := by
  obtain ⟨F, hF⟩ := h
  obtain ⟨own, hN, hb⟩ := hF.netAt hs
  obtain ⟨⟨hO, _, _⟩, hOF⟩ : ((∀ b o, O b = some o → w.heap[b]? = some o ∧ ¬ Blk none b) ∧ LstIs w none 0 0 ∧ RowIn w none 0 []) ∧ ∀ b, F .hand b ↔ (O b ≠ none ∨ Blk none b) := hF.hold .hand
  have hgo := (hO lb o hlb).1
  have hgF : F .hand lb := (hOF lb).2 (.inl (by rw [hlb]; simp))
  have hlo : own lb = none := by
    cases e : own lb with
    | none => rfl
    | some t => exact absurd (hF.apart (.net i) .hand lb ((hb lb).2 (by rw [e]; simp)) hgF) (by simp)
  unfold anyR
  cases e : anyErr s.N.nl zs t with
  | some er =>
    refine (any_bad w own s.A s.N lb n lcap zs t er hN hp.nl hn hnm hin e).mono ?_
    rintro e w' ⟨rfl, hbel⟩
    have hmv := Mv.of_below hbel
    refine ⟨none, 0, 0, rfl, rfl, ?_⟩
    exact hF.netHand hs hb (N' := s.N) (own' := own) (hN.keep hbel.size fun b t hb => hbel.block b (hN.1 b t hb)) (hmv.mono fun _ _ e => e.elim) (Grows.refl _ _) (.inl ⟨rfl, rfl, rfl⟩) ⟨rfl, .inl rfl⟩ (fun b hb => by cases hb)
  | none =>
    obtain ⟨g1, g2, g3, g4, g5, g6⟩ := anyErr_none e
    have hmap : ∀ j, j < zs.length → ((zs.map Int.toNat).getD j 0 : Int) = zs.getD j 0 := fun j hj => by
      have hz := (g2 zs[j] (List.getElem_mem hj)).1
      rw [List.getD_eq_getElem?_getD, List.getD_eq_getElem?_getD, List.getElem?_map, List.getElem?_eq_getElem hj]
      show ((zs[j].toNat : Nat) : Int) = zs[j]
      exact Int.toNat_of_nonneg hz
    have hcall := any_ok w own s.A s.N t.toNat lb lcap (zs.map Int.toNat) hN (hp.fineR hk).fine
      (fun l hl => by obtain ⟨z, hz, rfl⟩ := List.mem_map.1 hl; have := g2 z hz; omega) hp.nl (by rw [List.length_map]; exact g1)
      (by rw [List.length_map]; exact List.length_pos_iff.2 g3)
      (List.pairwise_map.2 (List.Pairwise.imp_of_mem (fun {a b} ha hb' hab e2 => hab (by have := g2 a ha; have := g2 b hb'; omega)) g4)) (by omega) ⟨hlo, lt_of_heap hgo, fun j hj => by
        rw [List.length_map] at hj
        rw [hmap j hj]; exact hin j (by omega)⟩
    · rw [List.length_map, hn, Int.toNat_of_nonneg g5] at hcall
      refine hcall.mono ?_
      rintro e w' ⟨v, rfl, own', h1, h2, h3, h4⟩
      cases em : (Nt.waitGo (zs.map Int.toNat) t.toNat s.N).msg with
      | none =>
        rw [em] at h4
        have hv : v = .slice none 0 0 := h4
        subst hv
        exact ⟨none, 0, 0, rfl, rfl, hF.netHand hs hb h1 h2 h3 (.inl ⟨rfl, rfl, rfl⟩) ⟨rfl, .inl rfl⟩ (fun b hb => by cases hb)⟩
      | some m =>
        rw [em] at h4
        obtain ⟨g, hm, ho, hg⟩ : ∃ g, MsgAt w' g v m ∧ own' g = none ∧ (own g ≠ none ∨ w.heap.size ≤ g) := h4
        obtain ⟨c, rfl, hl⟩ := hm.lst
        obtain ⟨c', hv', hr⟩ := RowIn.of_msg hm
        exact ⟨some ⟨g, 0, none⟩, m.length, c, rfl, rfl, hF.netHand hs hb h1 h2 h3 hl hr fun b hbk => by cases hbk; exact ⟨hm.lt, ho, hg⟩⟩
theorem sep_sendO {g n cap : Nat} {o : Obj} {m : List Int} (h : PlaySep w0 w pb bb st H (handRes O none 0 0 [])) (hg : O g = some o) (hs : st i = some s) (hp : PN s.N k) (hk : k ≤ 1048576) (x : Int) (hm : m.length = n) (hn : n ≤ 1048576) (hcap : n ≤ cap)
    (hc : ∀ j, j < n → w.cell? ⟨g, j, none⟩ = some (.int .u8 (m.getD j 0))) :
    Calls Try.prog 18 #[.pointer (some ⟨s.A.net, 0, none⟩), .int .i64 x, .slice (some ⟨g, 0, none⟩) n cap] w fun e w' => e = .returned (.int .i64 (closeE s.N x)) ∧ PlaySep w0 w' pb bb (updS st i (some { s with N := sendN s.N x m })) H (handRes O none 0 0 []) := by
  obtain ⟨F, hF⟩ := id h
  obtain ⟨own1, hN1, hb⟩ := hF.netAt hs
  obtain ⟨⟨hO, _, _⟩, hOF⟩ : ((∀ b o, O b = some o → w.heap[b]? = some o ∧ ¬ Blk none b) ∧ LstIs w none 0 0 ∧ RowIn w none 0 []) ∧ ∀ b, F .hand b ↔ (O b ≠ none ∨ Blk none b) := hF.hold .hand
  have hgo := (hO g o hg).1
  have hgF : F .hand g := (hOF g).2 (.inl (by rw [hg]; simp))
  have hmsg : own1 g = none := by
    cases e : own1 g with
    | none => rfl
    | some t => exact absurd (hF.apart (.net i) .hand g ((hb g).2 (by rw [e]; simp)) hgF) (by simp)
  unfold closeE sendN
  by_cases hx : 0 ≤ x ∧ x < s.N.nl
  · rw [if_pos hx, if_pos hx]
    have ex : ((x.toNat : Nat) : Int) = x := Int.toNat_of_nonneg hx.1
    by_cases hcl : (s.N.lane x.toNat).closed = true
    · rw [if_pos hcl, if_pos hcl]
      refine h.netSame hs fun own hN => ?_
      have := Send_closed w own s.A s.N x.toNat (.slice (some ⟨g, 0, none⟩) n cap) hN (by omega) hcl
      rw [ex] at this
      exact this
    · rw [if_neg hcl, if_neg hcl]
      have hin : MsgIn w own1 ⟨g, 0, none⟩ m := ⟨hmsg, lt_of_heap hgo, fun j u hj => by
        rw [add_zero_block]
        have hjl : j < m.length := by have := (List.getElem?_eq_some_iff.1 hj).1; simpa [ub] using this
        have e : (ub m)[j]? = some (.int .u8 (m.getD j 0)) := by
          unfold ub
          rw [List.getElem?_map, List.getD_eq_getElem?_getD, List.getElem?_eq_getElem hjl]
          rfl
        rw [e] at hj
        cases hj
        exact hc j (by omega)⟩
      have := Send_ok w own1 s.A s.N x.toNat ⟨g, 0, none⟩ n cap m hN1 (hp.fit hk) (by omega) (by simpa using hcl) hm hn hcap hin
      rw [ex] at this
      refine this.mono ?_
      rintro e w' ⟨rfl, own', h1, h2, h3⟩
      obtain ⟨F', hF', _⟩ := hF.netTurn hs hb h1 h2 h3
      exact ⟨rfl, F', hF'⟩
  · rw [if_neg hx, if_neg hx]
    exact h.netSame hs fun own hN => Send_noLane w own s.A s.N x _ hN (by omega)
end
end Go.Proofs.Ytadalodjnbnjkaa

/- does, walked: Pass. -/
namespace Go.Proofs.Ytadalodjnbnjkaa
open Go.RowKit Go.Conc

/-- One block in hand. -/
def oneO (B : Nat) (o : Obj) : Nat → Option Obj := fun b => if b = B then some o else none
def OpV.box (o : OpV) : Obj := .cells #[.int .i64 o.kind, .int .i64 o.net, .int .i64 o.lane, .int .i64 o.ticks, .slice o.la o.ln o.lc, .slice o.da o.dn o.dc] 107
section
variable {w0 w w' : World} {pb bb i k : Nat} {st : Nat → Option Side} {H : List Hd} {s : Side}
theorem PlaySep.boxed (h : PlaySep w0 w pb bb st H empRes) (o : OpV) : PlaySep w0 (w.alloc o.box) pb bb st H (handRes (oneO w.heap.size o.box) none 0 0 []) :=
  h.toHand.putHand ((Mv.refl _ _).alloc _) (Nat.le_refl _) (heap_alloc_new w _)
theorem PlaySep.atBox {B : Nat} {o : Obj} {a : Option Addr} {n c : Nat} {l : List Int} (h : PlaySep w0 w pb bb st H (handRes (oneO B o) a n c l)) : w.heap[B]? = some o := h.handBlock (if_pos rfl)
/-- What the regions that call read: the play's pointers, the box's fields. -/
def Sees (w : World) (pb B i : Nat) (s : Side) (lane ticks : Int) : Prop :=
  w.cell? ⟨pb, i, none⟩ = some (.pointer (some ⟨s.A.net, 0, none⟩)) ∧ w.cell? ⟨pb, 2 + i, none⟩ = some (.pointer (some ⟨s.G, 0, none⟩)) ∧ w.cell? ⟨B, 2, none⟩ = some (.int .i64 lane) ∧ w.cell? ⟨B, 3, none⟩ = some (.int .i64 ticks)
theorem PlaySep.sees {B : Nat} {o : OpV} {a : Option Addr} {n c : Nat} {l : List Int} {t : Side} (h : PlaySep w0 w pb bb st H (handRes (oneO B o.box) a n c l)) (hi : i < 2) (hs : st i = some s) (h1 : s.A.net = t.A.net) (h2 : s.G = t.G) : Sees w pb B i t o.lane o.ticks := by
  obtain ⟨q1, q2, _⟩ := h.playCells hi hs
  rw [h1] at q1
  rw [h2] at q2
  exact ⟨q1, q2, cell_of_heap h.atBox 2 rfl, cell_of_heap h.atBox 3 rfl⟩
end

set_option maxRecDepth 100000 in
set_option maxHeartbeats 1600000 in
theorem does_pass (w0 w : World) (pb bb k : Nat) (st : Nat → Option Side) (H : List Hd) (o : OpV) (s : Side) (h : Inv w0 w pb bb st H k) (hk1 : k ≤ 1048576) (i : Nat) (hi : i < 2) (hb : bits BinOp.and IntKind.i64 o.net 1 = (i : Int)) (hs : st i = some s) (hk : o.kind = 4) :
    Calls Try.prog 43 #[.pointer (some ⟨pb, 0, none⟩), o.val] w (Does w0 pb bb k) := by
  obtain ⟨c0, c2, c4, c6⟩ := h.1.playCells hi hs
  have hpl := lt_of_heap h.1.play
  have hii : (i : Int) < 2 := by omega
  have hi0 : (0 : Int) ≤ i := by omega
  have HP0 := Lib.hid (h.1.boxed o)
  obtain ⟨kind, net, lane, ticks, la, ln, lc, zs, da, dn, dc, m⟩ := o
  simp only [OpV.val] at hb hk ⊢
  subst hk
  have HI := Lib.hid h
  have HS := Lib.hid hs
  clear h hs
  go_enter Try.func43, Try.ntmps43
  go_wp2_with fail
  obtain ⟨W1, hW1⟩ : ∃ W, W = w.alloc (.cells #[.int .i64 4, .int .i64 net, .int .i64 lane, .int .i64 ticks, .slice la ln lc, .slice da dn dc] 107) := ⟨_, rfl⟩
  obtain ⟨B, hB⟩ : ∃ B, B = w.heap.size := ⟨_, rfl⟩
  rw [← hW1, ← hB]
  have hP := HP0.out
  simp only [OpV.box] at hP
  rw [← hW1, ← hB] at hP
  obtain ⟨d0, d2, b2, b3⟩ := hP.sees (o := ⟨4, net, lane, ticks, la, ln, lc, zs, da, dn, dc, m⟩) hi HS.out rfl rfl
  have HP := Lib.hid hP
  have hnum : ∀ (x : Int) W, Calls Try.prog 13 #[.int .i64 x] W fun e w' => e = .returned (.int .i64 x) ∧ W = w' := num_any
  have HNUM := Lib.hid hnum
  obtain ⟨pv, hpv⟩ : ∃ v, v = passE ticks := ⟨_, rfl⟩
  have HC1 := Lib.hid (sep_pass (HP.out.still ((Mv.refl _ _).drew)) HS.out (HI.out.2.1 i s HS.out).2 hk1 ticks)
  have HC2 : Hid (∀ W, PlaySep w0 W pb bb (updS st i (some { s with N := passN s.N ticks })) H (handRes (oneO B (OpV.box ⟨4, net, lane, ticks, la, ln, lc, zs, da, dn, dc, m⟩)) none 0 0 []) → Calls Try.prog 52 #[.pointer (some ⟨s.G, 0, none⟩), .int .i64 ticks] W fun e w' => e = .returned (.int .i64 (passE ticks)) ∧ PlaySep w0 w' pb bb (updS (updS st i (some { s with N := passN s.N ticks })) i (some { A := s.A, N := passN s.N ticks, G := s.G, R := (passN s.N ticks).ref })) H (handRes (oneO B (OpV.box ⟨4, net, lane, ticks, la, ln, lc, zs, da, dn, dc, m⟩)) none 0 0 [])) :=
    Lib.hid fun W hW => sep_rpass hW (updS_same _ _ _) (N := s.N) (HI.out.2.1 i s HS.out).1 (HI.out.2.1 i s HS.out).2 hk1 ticks
  rw [← hpv] at HC1 HC2
  have hee : ((pv : Int) == pv) = true := by simp
  clear hB hW1 c0 c2 c4 c6 hP HP0 hnum hpv
  simp only at b2 b3
  go_region_held3 (fun w' => w'.cell? ⟨pb, i, none⟩ = some (.pointer (some ⟨s.A.net, 0, none⟩)) ∧ w'.cell? ⟨B, 3, none⟩ = some (.int .i64 ticks))
    (go_keep)
    (first
      | (go_at_call 39; refine HC1.out.mono ?_; rintro e w2 ⟨rfl, hP2⟩; obtain ⟨e0, e2, e3, e4⟩ := hP2.sees (o := ⟨4, net, lane, ticks, la, ln, lc, zs, da, dn, dc, m⟩) (t := s) hi (updS_same _ _ _) rfl rfl; simp only at e3 e4; have HP2 := Lib.hid hP2; clear hP2))
  go_wp2_with fail
  go_region_held3 (fun w' => w'.cell? ⟨pb, 2 + i, none⟩ = some (.pointer (some ⟨s.G, 0, none⟩)) ∧ w'.cell? ⟨B, 3, none⟩ = some (.int .i64 ticks))
    (go_keep)
    (first
      | (go_at_call 52; refine (HC2.out _ (HP2.out.still ((Mv.refl _ _).drew))).mono ?_; rintro e w3 ⟨rfl, hP3⟩; obtain ⟨f0, f2, f3, f4⟩ := hP3.sees (o := ⟨4, net, lane, ticks, la, ln, lc, zs, da, dn, dc, m⟩) (t := s) hi (updS_same _ _ _) rfl rfl; simp only at f3 f4; have HP3 := Lib.hid hP3; clear hP3))
  go_wp2_with (first
    | (go_at_call 13; refine (HNUM.out _ _).mono ?_; rintro r w' ⟨rfl, rfl⟩))
  go_ret
  have hfin := HP3.out.drop
  rw [updS_twice] at hfin
  exact ⟨rfl, _, H, HI.out.step HS.out ((HI.out.2.1 i s HS.out).2.pass ticks) hfin (by have := HI.out.2.2.1; omega) HI.out.2.2.2⟩
end Go.Proofs.Ytadalodjnbnjkaa
