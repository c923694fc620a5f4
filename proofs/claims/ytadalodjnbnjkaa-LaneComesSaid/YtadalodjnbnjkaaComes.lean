/- LaneComes, walked. -/
import Derived.Test.YtadalodjnbnjkaaDrain
namespace Go.Proofs.Ytadalodjnbnjkaa
open Go.RowKit Go.Conc

/-- The messages of script in memory, with where their bytes lie. -/
def SntsIn (z w : World) (lb : Nat) (L : List SntA) : Prop :=
  ∀ i x, L[i]? = some x → w.cell? ⟨lb, i * 5, none⟩ = some (.int .i64 x.s.gap) ∧ w.cell? ⟨lb, i * 5 + 1, none⟩ = some (.int .i64 x.s.lane) ∧ w.cell? ⟨lb, i * 5 + 2, none⟩ = some (.slice x.a x.s.data.length x.c) ∧
    w.cell? ⟨lb, i * 5 + 3, none⟩ = some (.int .i64 x.s.fate.1) ∧ w.cell? ⟨lb, i * 5 + 4, none⟩ = some (.int .i64 x.s.fate.2) ∧ RowIn z x.a x.s.data.length x.s.data
theorem SntsIn.still {z w w' : World} {lb : Nat} {L : List SntA} (h : SntsIn z w lb L) (hb : Below w.heap.size w w') : SntsIn z w' lb L := by
  intro i x hx
  obtain ⟨h1, h2, h3, h4, h5, h6⟩ := h i x hx
  have hl := World.block_lt_of_cell? w _ h1
  have e : ∀ j, w'.cell? ⟨lb, j, none⟩ = w.cell? ⟨lb, j, none⟩ := fun j => hb.cell (p := ⟨lb, j, none⟩) hl
  exact ⟨(e _).trans h1, (e _).trans h2, (e _).trans h3, (e _).trans h4, (e _).trans h5, h6⟩
theorem SntsIn.sents {z w : World} {lb : Nat} {L : List SntA} (h : SntsIn z w lb L) (hb : Below z.heap.size z w) : SentsIn w lb (L.map (·.s)) := by
  intro i s hs
  rw [List.getElem?_map, Option.map_eq_some_iff] at hs
  obtain ⟨x, hx, rfl⟩ := hs
  obtain ⟨h1, h2, h3, h4, h5, h6⟩ := h i x hx
  exact ⟨x.a, x.c, h1, h2, h3, h4, h5, h6.still hb⟩
theorem snt_get {L : List SntA} : ∀ {i j : Nat} {x : SntA} {u : Value}, L[i]? = some x → x.cells[j]? = some u → (sntCells L)[i * 5 + j]? = some u := by
  induction L with
  | nil => intro i j x u h; simp at h
  | cons y L ih =>
    intro i j x u h hj
    have hlen : y.cells.length = 5 := rfl
    show (y.cells ++ sntCells L)[i * 5 + j]? = some u
    rcases i with _ | i
    · obtain rfl := Option.some.inj h
      have : j < 5 := by
        have := (List.getElem?_eq_some_iff.1 hj).1
        rw [hlen] at this; exact this
      rw [Nat.zero_mul, Nat.zero_add, List.getElem?_append_left (by rw [hlen]; exact this)]
      exact hj
    · rw [List.getElem?_append_right (by rw [hlen]; omega), hlen, show (i + 1) * 5 + j - 5 = i * 5 + j by omega]
      exact ih h hj
theorem ScRel.snts {z w wr : World} {L : List SntA} {v : Value} (h : ScRel z w L v wr) : ∃ la lb cap, v = .slice la L.length cap ∧ (L.length = 0 ∨ la = some ⟨lb, 0, none⟩) ∧ SntsIn z wr lb L := by
  rcases h.2.1.2 with ⟨rfl, hz⟩ | ⟨g, cap, cur, rfl, _⟩
  · exact ⟨none, 0, 0, by rw [hz], .inl hz, fun i x hx => by have := (List.getElem?_eq_some_iff.1 hx).1; omega⟩
  · have hc := h.2.1.cells (g := g) rfl
    have e1 : ∀ i, (⟨g, 0, none⟩ : Addr).add i = ⟨g, i, none⟩ := fun i => by unfold Addr.add; split <;> simp_all
    refine ⟨_, g, cap, rfl, .inr rfl, fun i x hx => ?_⟩
    have get : ∀ j u, x.cells[j]? = some u → wr.cell? ⟨g, i * 5 + j, none⟩ = some u := fun j u hj => by
      have := hc _ _ (snt_get hx hj)
      rw [e1] at this
      exact this
    exact ⟨get 0 _ rfl, get 1 _ rfl, get 2 _ rfl, get 3 _ rfl, get 4 _ rfl, (h.2.2 x (List.mem_of_getElem? hx)).2⟩

/-! ### plain -/
theorem One.ticks_now (o : One) : ∀ k, (o.ticks k).now = o.now + k
  | 0 => rfl
  | k + 1 => by show (o.ticks k).now + 1 = _; rw [One.ticks_now o k]; omega
theorem One.fated_now (o : One) (m : List Int) (f : Int × Int) : (o.fated m f).now = o.now := by
  unfold One.fated One.sendAt
  repeat' split
  all_goals rfl
theorem One.one_now (i : Nat) (o : One) (s : Snt) : (o.one i s).now = o.now + s.gap := by
  unfold One.one
  split
  · rw [One.fated_now, One.ticks_now]
  · exact One.ticks_now _ _
theorem One.run_now (i : Nat) : ∀ (S : List Snt) (o : One), (o.run i S).now = o.now + gaps S
  | [], o => rfl
  | s :: S, o => by
    show ((o.one i s).run i S).now = _
    rw [One.run_now i S, One.one_now]
    simp only [gaps]; omega
theorem One.run_snoc (i : Nat) (o : One) (S : List Snt) (s : Snt) : o.run i (S ++ [s]) = (o.run i S).one i s := by simp [One.run]
theorem sends_view_any {S : List Snt} (hS : ∀ s ∈ S, TameS s) (k : Nat) : view k (sendsN true true S) = One.run k ⟨0, [], []⟩ S := by
  unfold sendsN
  rw [view_run S (net0 2 (fatesOf true true S)) (fun s hs h => by
    have := (hS s hs).2.1
    unfold sel
    have : s.lane = 0 ∨ s.lane = 1 := by omega
    rcases this with h | h <;> simp [h]) (by show (fatesOf true true S).drop 0 = _; rw [List.drop_zero])]
  rfl
theorem gaps_le : ∀ {S : List Snt}, (∀ s ∈ S, TameS s) → gaps S ≤ 20 * S.length
  | [], _ => by simp [gaps]
  | s :: S, h => by
    have h1 := (h s (by simp)).1
    have h2 := gaps_le (S := S) (fun x hx => h x (by simp [hx]))
    simp only [gaps, List.length_cons]; omega

/-- The state of the loop that gathers what must come on lane k. -/
def ComesS (w1 w2 : World) (k : Nat) (S : List Snt) (q : Nat) (v : Value) (wr : World) : Prop :=
  ∃ D, Below w2.heap.size w2 wr ∧ DueIn w2.heap.size w1.heap.size wr v D ∧ Due D (One.run k ⟨0, [], []⟩ (S.take q)) q ∧ D.length ≤ 2 * q
theorem ComesS.start (w1 w2 : World) (k : Nat) (S : List Snt) : ComesS w1 w2 k S 0 (.slice none 0 0) w2 :=
  ⟨[], Below.refl _ _, ⟨⟨none, 0, rfl, fun i x hx => by simp at hx, Nat.le_refl _, fun b hb => by cases hb⟩, fun x hx => by simp at hx⟩, Due.start, Nat.le_refl _⟩
theorem ComesS.other {w1 w2 wr : World} {k q : Nat} {S : List Snt} {s : Snt} {v : Value} (h : ComesS w1 w2 k S q v wr) (hs : S[q]? = some s) (hl : s.lane ≠ k) (hq : q < 24) : ComesS w1 w2 k S (q + 1) v wr := by
  obtain ⟨D, h1, h2, h3, h4⟩ := h
  have hk := List.getElem?_eq_some_iff.1 hs
  refine ⟨D, h1, h2, ?_, by omega⟩
  rw [List.take_succ_eq_append_getElem hk.1, hk.2, One.run_snoc]
  unfold One.one
  rw [if_neg hl]
  exact (h3.ticks (by omega) _).more (by omega)
theorem ComesS.this {w1 w2 wr w' : World} {k q : Nat} {S : List Snt} {s : Snt} {v' a' : _} {n' c' : Nat} {D : List Cm} (h1 : Below w2.heap.size w2 wr) (h3 : Due D (One.run k ⟨0, [], []⟩ (S.take q)) q) (h4 : D.length ≤ 2 * q) (hs : S[q]? = some s) (hl : s.lane = k) (hf : s.fate.2 ≤ 40) (hq : q < 24)
    (hb : Below wr.heap.size wr w') (hd : DueIn w2.heap.size w1.heap.size w' v' (becF D (gaps (S.take q) + s.gap) q s.data s.fate a' n' c')) : ComesS w1 w2 k S (q + 1) v' w' := by
  have hk := List.getElem?_eq_some_iff.1 hs
  refine ⟨_, ((Mv.of_below h1).trans (Mv.of_below hb)).below, hd, ?_, by have := becF_len D (gaps (S.take q) + s.gap) q s.data s.fate a' n' c'; omega⟩
  rw [List.take_succ_eq_append_getElem hk.1, hk.2, One.run_snoc]
  unfold One.one
  rw [if_pos hl]
  have hT := h3.ticks (by omega) s.gap
  have hn : ((One.run k ⟨0, [], []⟩ (S.take q)).ticks s.gap).now = gaps (S.take q) + s.gap := by rw [One.ticks_now, One.run_now]; show 0 + _ + _ = _; omega
  have := hT.fated (by omega) s.data s.fate hf a' n' c'
  rw [hn] at this
  exact this.more (by omega)

set_option maxRecDepth 100000 in
set_option maxHeartbeats 3200000 in
theorem comes_walk (a0 : Option Addr) (len0 cap0 : Nat) (a1 : Int) (w : World) (hraw : RawIn w w a0 len0) :
    Calls Try.prog 10 #[.slice a0 len0 cap0, .int .i64 a1] w fun e w' => e = .returned (.bool true) ∧ Below w.heap.size w w' := by
  obtain ⟨kk, hkk, bk⟩ := below_nat a1 2 (by omega) (by omega)
  have BK := Lib.hid bk
  have HRAW := Lib.hid hraw
  clear bk hraw
  go_enter Try.func10, Try.ntmps10
  go_wp2_with fail
  refine (script_any w w a0 len0 cap0 HRAW.out).mono ?_
  rintro r w1 ⟨L, v, rfl, hL24, hsc⟩
  obtain ⟨la, lb, cap, rfl, hla, hin⟩ := hsc.snts
  have hT : ∀ s ∈ L.map (·.s), TameS s := fun s hs => by
    obtain ⟨x, hx, rfl⟩ := List.mem_map.1 hs
    exact (hsc.2.2 x hx).1.1
  have hB1 := hsc.1
  obtain ⟨n, hn⟩ : ∃ n, n = L.length := ⟨_, rfl⟩
  rw [← hn] at hL24 hla ⊢
  have HN := Lib.hid hn
  have HSC := Lib.hid hsc
  have HIN := Lib.hid hin
  have HT := Lib.hid hT
  have HB1 := Lib.hid hB1
  have HLA := Lib.hid hla
  clear hsc hin hT hB1 hn hla HRAW
  go_wp2_with fail
  refine (BK.out _).mono ?_
  rintro r w' ⟨rfl, rfl⟩
  go_wp2_with fail
  have hsl : (L.map (·.s)).length = n := by rw [List.length_map, HN.out]
  have HSL := Lib.hid hsl
  have hgo := sends_run (S := L.map (·.s)) (b1 := true) HT.out (by rw [hsl]; omega)
  have HGO := Lib.hid hgo
  clear hsl hgo
  refine (sends_any w1 la lb n cap (L.map (·.s)) true HLA.out HSL.out (by omega) HT.out (HIN.out.sents HB1.out)).mono ?_
  rintro r w2 ⟨A, rfl, hH⟩
  have HH := Lib.hid hH
  obtain ⟨gs, hgs⟩ : ∃ g, g = gaps (L.map (·.s)) := ⟨_, rfl⟩
  rw [← hgs]
  have HGS := Lib.hid hgs
  clear hH hgs
  go_wp2_with fail
  go_loopw [10, 11, 12] (fun dv tv i wr => ∃ q : Nat, q ≤ n ∧ i = .int .i64 q ∧ tv = .int .i64 (gaps ((L.map (·.s)).take q) : Nat) ∧ ComesS w1 w2 kk (L.map (·.s)) q dv wr) (fun _ _ i _ => n - (intOf i).toNat)
  case atStart => exact ⟨0, Nat.zero_le _, rfl, rfl, ComesS.start _ _ _ _⟩
  case round =>
    obtain ⟨q, hq, rfl, rfl, hrel⟩ := hrel
    have HR := Lib.hid hrel
    obtain ⟨D, hb2, hdue, hplain, hlen⟩ := hrel
    obtain ⟨t, ht⟩ : ∃ t, t = gaps ((L.map (·.s)).take q) := ⟨_, rfl⟩
    rw [← ht]
    have htb : t ≤ 20 * q := by
      have := gaps_le (S := (L.map (·.s)).take q) (fun s hs => HT.out s (List.mem_of_mem_take hs))
      rw [List.length_take] at this
      omega
    have HTT := Lib.hid ht
    have HB2 := Lib.hid hb2
    have HDU := Lib.hid hdue
    have HPL := Lib.hid hplain
    clear hb2 hdue hplain ht
    by_cases hlt : q < n
    · have hlt' : (q : Int) < n := by omega
      have hq0 : (0 : Int) ≤ q := by omega
      obtain ⟨x, hx⟩ : ∃ y, L[q]? = some y := ⟨_, List.getElem?_eq_getElem (by rw [← HN.out]; exact hlt)⟩
      obtain rfl := HLA.out.resolve_left (by omega)
      have hb12 := (HH.out.below.trans (HB2.out.mono HH.out.below.size))
      have hinr := HIN.out.still hb12
      obtain ⟨c0, c1, c2, c3, c4, hrow⟩ := hinr q x hx
      have hxm := List.mem_of_getElem? hx
      obtain ⟨⟨xT, xf, xc⟩, _⟩ := HSC.out.2.2 x hxm
      have hbw : Below w.heap.size w wr := ((Mv.of_below HB1.out).trans (Mv.of_below hb12)).below
      have hsx : (L.map (·.s))[q]? = some x.s := by rw [List.getElem?_map, hx]; rfl
      have hsnoc : (L.map (·.s)).take (q + 1) = (L.map (·.s)).take q ++ [x.s] := by
        have := List.getElem?_eq_some_iff.1 hsx
        rw [List.take_succ_eq_append_getElem this.1, this.2]
      have hgs : gaps ((L.map (·.s)).take (q + 1)) = t + x.s.gap := by rw [hsnoc, gaps_append, ← HTT.out]; simp [gaps]
      obtain ⟨⟨xg, xl, xm, xk, xx⟩, xa, xcc⟩ := x
      simp only at c0 c1 c2 c3 c4 hrow xf xc hgs
      have c4' : wr.cell? ⟨lb, q * 5 + 3 + 1, none⟩ = some (.int .i64 xx) := c4
      have hxg : xg ≤ 20 := xT.1
      have HXT := Lib.hid xT
      have HGS := Lib.hid hgs
      have HSX := Lib.hid hsx
      have HROW := Lib.hid (hrow.still hbw)
      have hxa : ∀ ad, xa = some ad → xm.length ≠ 0 → ad.block < w1.heap.size := fun ad had h0 => by
        obtain ⟨b, off, hb, hcc⟩ := hrow.2.resolve_left h0
        rw [had] at hb
        cases hb
        have := World.block_lt_of_cell? w _ (hcc 0 (by omega))
        have hs := HB1.out.size
        have this' : b < w.heap.size := this
        show b < w1.heap.size
        omega
      have HXA := Lib.hid hxa
      clear hx hinr hrow hxm hbw hsx hsnoc hgs hxa xT hb12
      by_cases hl : xl = kk
      · subst hl
        have heq : ((xl : Int) == xl) = true := by simp
        have hbec : Calls Try.prog 27 #[u10, .agg #[.int .i64 xg, .int .i64 xl, .slice xa xm.length xcc, .int .i64 xk, .int .i64 xx], .int .i64 ((t : Int) + xg), .int .i64 q] wr (Became w2.heap.size w1.heap.size wr D (t + xg) q xm (xk, xx)) := by
          rw [← Int.natCast_add]
          exact becomes_any (B := w2.heap.size) (n0 := w1.heap.size) wr u10 D HDU.out (by omega) ⟨xg, xl, xm, xk, xx⟩ HXT.out xa xcc xc HROW.out (fun h0 ad had => .inl (HXA.out ad had h0)) xf (t + xg) q (by omega)
        have HBEC := Lib.hid hbec
        obtain ⟨⟨ad0, cap1, rfl, _⟩, _⟩ := HDU.out
        clear hbec
        go_wp2_with fail
        refine HBEC.out.mono ?_
        rintro r w3 ⟨v', a', n', c', rfl, hb3, hd3⟩
        have hS := ComesS.this HB2.out HPL.out hlen HSX.out rfl xf (by omega) hb3 (by rw [← HTT.out]; exact hd3)
        have HS := Lib.hid hS
        clear hb3 hd3 hS
        go_wp2_with fail
        go_roundw
        case rel => exact ⟨q + 1, by omega, by go_num, by rw [HGS.out]; go_num, HS.out⟩
        case measure => simp [intOf]; omega
      · have heq : ((xl : Int) == kk) = false := by simp; omega
        have hS := HR.out.other HSX.out hl (by omega)
        have HS := Lib.hid hS
        clear hS
        go_wp2_with fail
        go_roundw
        case rel => exact ⟨q + 1, by omega, by go_num, by rw [HGS.out]; go_num, HS.out⟩
        case measure => simp [intOf]; omega
    · have hlt' : ¬ (q : Int) < n := by omega
      obtain rfl : q = n := by omega
      have hpl := HPL.out
      rw [List.take_of_length_le (by rw [HSL.out]; omega), ← sends_view_any HT.out] at hpl
      have hH := HH.out.range HB2.out
      have hlh := ListHeld.of_due (w := w1) HDU.out
      have hdr := drained_any w1 wr A _ _ kk _ hkk u10 D hH (HGO.out.1.more (by omega)) hpl (by omega) hlh
      rw [HGO.out.2, ← HGS.out] at hdr
      have HDR := Lib.hid hdr
      obtain ⟨⟨ad0, cap1, rfl, _⟩, _⟩ := HDU.out
      clear hpl hH hlh hdr
      go_wp2_with fail
      refine HDR.out.mono ?_
      rintro r w3 ⟨rfl, hb3⟩
      have HB3 := Lib.hid hb3
      clear hb3
      go_wp2_with fail
      go_ret
      exact ⟨rfl, ((Mv.of_below HB1.out).trans (Mv.of_below HB3.out)).below⟩
end Go.Proofs.Ytadalodjnbnjkaa
