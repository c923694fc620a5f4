/- Any, where it refuses. -/
import Derived.Test.YtadalodjnbnjkaaPlay20
import Derived.Test.YtadalodjnbnjkaaPlay19
import Derived.Test.YtadalodjnbnjkaaPlay15
namespace Go.Proofs.Ytadalodjnbnjkaa
open Go.RowKit Go.Conc Go.Maps

/-- How many of the first k are new where they stand. -/
def dcnt (zs : List Int) : Nat → Nat
  | 0 => 0
  | k + 1 => dcnt zs k + if zs.getD k 0 ∈ zs.take k then 0 else 1
theorem dcnt_le (zs : List Int) : ∀ k, dcnt zs k ≤ k
  | 0 => Nat.le_refl _
  | k + 1 => by
    have := dcnt_le zs k
    unfold dcnt
    split <;> omega
theorem dcnt_succ (zs : List Int) (k : Nat) : dcnt zs (k + 1) = dcnt zs k + if zs.getD k 0 ∈ zs.take k then 0 else 1 := rfl
theorem dcnt_full {zs : List Int} : ∀ {n : Nat}, dcnt zs n = n → ∀ k, k < n → zs.getD k 0 ∉ zs.take k
  | 0, _, k, hk => by omega
  | n + 1, h, k, hk => by
    have hl := dcnt_le zs n
    unfold dcnt at h
    by_cases hm : zs.getD n 0 ∈ zs.take n
    · rw [if_pos hm] at h; omega
    · rw [if_neg hm] at h
      rcases Nat.lt_or_ge k n with h1 | h1
      · exact dcnt_full (by omega) k h1
      · obtain rfl : k = n := by omega
        exact hm
theorem dcnt_nodup {zs : List Int} (h : dcnt zs zs.length = zs.length) : zs.Nodup :=
  nodup_of fun i hi j hj e => dcnt_full h i hi (by
    rw [e, List.getD_eq_getElem?_getD, List.getElem?_eq_getElem (show j < zs.length by omega)]
    exact List.mem_take_iff_getElem.2 ⟨j, by omega, rfl⟩)

def AnyRel2 (w : World) (zs : List Int) (k : Nat) (wr : World) : Prop :=
  Below w.heap.size w wr ∧ ∃ D : DataW Unit, wr.ownsMap Try.prog 3 (plainElem Try.prog 3) w.heap.size k D ∧ Maps.size D = dcnt zs k ∧ ∀ z : Int, Maps.has D (.int .i64 z) = decide (z ∈ zs.take k)
theorem AnyRel2.start (w : World) (zs : List Int) : AnyRel2 w zs 0 (w.alloc (.map #[] 0)) :=
  ⟨(Below.refl _ _).alloc (Nat.le_refl _) _, .map [], World.ownsMap_made _ _ _ _, rfl, fun l => by simp [Maps.has]⟩
theorem AnyRel2.step {w wr w1 : World} {zs : List Int} {k : Nat} {D : DataW Unit} {d : DataW Unit} (hk : k < zs.length) (hb : Below w.heap.size w wr) (ht : Tidy D)
    (hs : Maps.size D = dcnt zs k) (hh : ∀ z : Int, Maps.has D (.int .i64 z) = decide (z ∈ zs.take k)) (hown1 : w1.ownsMap Try.prog 3 (plainElem Try.prog 3) w.heap.size (k + 1) (D.put (.int .i64 (zs.getD k 0)) d))
    (hg : wr.grownBy w1 (some w.heap.size)) : AnyRel2 w zs (k + 1) w1 := by
  refine ⟨hb.grown hg hb.size (fun j hj => by cases hj; exact Nat.le_refl _), _, hown1, ?_, fun z => ?_⟩
  · rw [size_put ht, hs, hh, dcnt_succ]
    by_cases hm : zs.getD k 0 ∈ zs.take k
    · rw [if_pos hm, if_pos (decide_eq_true hm), Nat.add_zero]
    · rw [if_neg hm, if_neg (by simpa using hm)]
  · have e : zs.getD k 0 = zs[k] := by simp [hk]
    have e2 : (z ∈ zs.take (k + 1)) ↔ (z ∈ zs.take k ∨ z = zs[k]) := by rw [List.take_succ_eq_append_getElem hk, List.mem_append, List.mem_singleton]
    simp only [e2]
    by_cases hl : z = zs[k]
    · subst hl
      rw [e, has_put_same ht.isMap (by trivial)]
      simp
    · rw [has_put_other (by rw [e]; intro h; injection h with _ h; exact hl h), hh]
      simp [hl]

set_option maxRecDepth 100000 in
set_option maxHeartbeats 3200000 in
theorem any_bad (w : World) (own : Own) (A : Ga) (N : Nt) (lb n lcap : Nat) (zs : List Int) (t : Int) (er : Int) (h : NetIs w own A N) (hnl : N.nl ≤ 64) (hn : zs.length = n) (hnm : n ≤ 1099511627776) (hin : ∀ j, j < n → w.cell? ⟨lb, j, none⟩ = some (.int .i64 (zs.getD j 0))) (her : anyErr N.nl zs t = some er) :
    Calls Try.prog 26 #[.pointer (some ⟨A.net, 0, none⟩), .slice (some ⟨lb, 0, none⟩) n lcap, .int .i64 t] w fun e w' => e = .returned (.tuple #[.int .i64 0, .slice none 0 0, .int .i64 er]) ∧ Below w.heap.size w w' := by
  have hmm := @run_makeMap Try.prog
  have H := Lib.hid h
  have HIN := Lib.hid hin
  have HN := Lib.hid hn
  have HER := Lib.hid her
  clear h hin hn her
  by_cases h64 : 64 < n
  · have hres : er = 2 := by
      have := HER.out
      unfold anyErr at this
      rw [if_pos (by rw [HN.out]; exact h64)] at this
      simpa using this.symm
    subst hres
    have hd : decide ((n : Int) > 64) = true := by simp; omega
    have hd2 : (64 : Int) < n := by omega
    go_enter Try.func26, Try.ntmps26
    go_wp2_with fail
    go_ret3
    exact ⟨rfl, Below.refl _ _⟩
  · have hd : decide ((n : Int) > 64) = false := by simp; omega
    have hd2 : (n : Int) ≤ 64 := by omega
    go_enter Try.func26, Try.ntmps26
    go_wp2_with fail
    go_loopw [18] (fun i wr => ∃ k : Nat, k ≤ n ∧ i = .int .i64 k ∧ AnyRel2 w zs k wr ∧ ∀ z ∈ zs.take k, 0 ≤ z ∧ z < N.nl) (fun i _ => n - (intOf i).toNat)
    case atStart => exact ⟨0, Nat.zero_le _, rfl, AnyRel2.start w zs, fun z hz => by simp at hz⟩
    case round =>
      obtain ⟨k, hk, rfl, hrel, hgood⟩ := hrel
      have HR := Lib.hid hrel
      have HGOOD := Lib.hid hgood
      have hbel := hrel.1
      clear hrel hgood
      by_cases hlt : k < n
      · have hkn : k < zs.length := by rw [HN.out]; exact hlt
        obtain ⟨x, hx⟩ : ∃ x, x = zs.getD k 0 := ⟨_, rfl⟩
        have hc0 := HIN.out k hlt
        have hc : wr.cell? ⟨lb, k, none⟩ = some (.int .i64 x) := by
          rw [hx]; exact (hbel.cell (p := ⟨lb, k, none⟩) (World.block_lt_of_cell? _ _ hc0)).trans hc0
        obtain ⟨capl, q3⟩ : ∃ capl, wr.cell? ⟨A.net, 0, none⟩ = some (.slice (some ⟨A.arr, 0, none⟩) N.nl capl) := by
          obtain ⟨h0, capl, fv, lv, h1, h2, h3, h4, h5⟩ := H.out.still (Mv.of_below hbel)
          exact ⟨capl, cell_of_heap h1.2 0 rfl⟩
        obtain ⟨D, hown, hsz, hhas⟩ := HR.out.2
        have HX := Lib.hid hx
        have HSZ := Lib.hid hsz
        have HHAS := Lib.hid hhas
        have HB := Lib.hid hbel
        have HKN := Lib.hid hkn
        clear hsz hhas hbel hkn hx hc0
        by_cases hb : x < 0 ∨ (N.nl : Int) ≤ x
        · have hres : er = 192 := by
            have := HER.out
            rw [any_bad_at (by rw [HN.out]; omega) HKN.out (by rw [← HX.out]; exact hb)] at this
            simpa using this.symm
          subst hres
          go_wp2_with (go_at_call 33; refine (has_no _ A.net N.nl capl _ _ q3 hb).mono ?_; rintro e w' ⟨rfl, rfl⟩)
          go_ret3
          exact ⟨rfl, HB.out⟩
        · have hx2 : 0 ≤ x ∧ x < N.nl := by omega
          have hkey : keyOf Try.prog 3 (.int .i64 x) = some (.int .i64 x) := keyOf_int_mk Try.underlying3 (WalkArith.wf_i64 (by omega))
          have hstep : ∀ y ∈ zs.take (k + 1), 0 ≤ y ∧ y < N.nl := fun y hy => by
            rw [List.take_succ_eq_append_getElem HKN.out] at hy
            simp only [List.mem_append, List.mem_singleton] at hy
            rcases hy with hy | rfl
            · exact HGOOD.out y hy
            · have : zs[k]'HKN.out = x := by rw [HX.out, List.getD_eq_getElem?_getD, List.getElem?_eq_getElem HKN.out]; rfl
              rw [this]; exact hx2
          have HSTEP := Lib.hid hstep
          have hx3 : 0 ≤ x := hx2.1
          have hx4 : x < N.nl := hx2.2
          clear hstep hb hx2
          go_wp2_with (first
            | (go_at_call 33; refine (has_yes _ A.net N.nl capl _ _ q3 hx3 hx4).mono ?_; rintro e w' ⟨rfl, rfl⟩)
            | (at_lookup; refine wpList_lookup_own_int _ rfl _ _ 100 rfl 3 3 .i64 law3 Try.underlying100 Try.underlying3 (zero3 _) w.heap.size k _ rfl hown _ _ rfl hkey ?_; intro c hat hwc)
            | (at_mapUpdate; refine wpList_mapUpdate_own _ rfl _ _ _ 100 rfl 3 3 law3 Try.underlying100 _ w.heap.size k _ rfl hown (by unfold maxLen; omega) _ _ _ rfl rfl hkey _ [] (plainElem_int Try.underlying3 (wrap64_wf _)) ?_; intro w1 hown1 hgrow1))
          go_roundw
          case rel => exact ⟨k + 1, by omega, by go_num, AnyRel2.step HKN.out HB.out (hown.tidy law3) HSZ.out HHAS.out (by rw [← HX.out]; exact hown1) hgrow1, HSTEP.out⟩
          case measure => simp [intOf]; omega
      · obtain rfl : k = n := by omega
        obtain ⟨D, hown, hsz, hhas⟩ := HR.out.2
        have HB := Lib.hid hbel
        have hall : ∀ z ∈ zs, 0 ≤ z ∧ z < N.nl := by
          have := HGOOD.out
          rw [List.take_of_length_le (by rw [HN.out]; omega)] at this
          exact this
        have hcase : zs = [] ∨ ¬ zs.Nodup ∨ t < 0 ∨ 65536 < t := by
          apply Classical.byContradiction
          intro hno
          have := HER.out
          unfold anyErr at this
          rw [if_neg (by rw [HN.out]; omega), if_neg (by rw [any_good hall]; simp), if_neg hno] at this
          cases this
        have hres : er = 1 := by
          have := HER.out
          unfold anyErr at this
          rw [if_neg (by rw [HN.out]; omega), if_neg (by rw [any_good hall]; simp), if_pos hcase] at this
          simpa using this.symm
        subst hres
        have hl := hown.len Try.underlying100 3
        rw [hsz] at hl
        obtain ⟨m, hm⟩ : ∃ m, m = dcnt zs k := ⟨_, rfl⟩
        rw [← hm] at hl
        have HM := Lib.hid hm
        have HCASE := Lib.hid hcase
        clear hbel hhas hsz hall hcase hm
        by_cases hz0 : k = 0
        · have e0 : ((k : Int) == 0) = true := by simp [hz0]
          clear hz0
          go_wp2_with fail
          go_ret3
          exact ⟨rfl, HB.out⟩
        · have e0 : ((k : Int) == 0) = false := by simp [hz0]
          by_cases hmk : m = k
          · have hnd : zs.Nodup := dcnt_nodup (by rw [HN.out, ← HM.out]; exact hmk)
            have e1 : ((m : Int) != k) = false := by simp [hmk]
            have hzn : zs ≠ [] := fun e => hz0 (by rw [← HN.out, e]; rfl)
            have ht : t < 0 ∨ 65536 < t := by
              rcases HCASE.out with h | h | h | h
              · exact absurd h hzn
              · exact absurd hnd h
              · exact .inl h
              · exact .inr h
            subst hmk
            clear hz0 hnd hzn
            by_cases ht0 : t < 0
            · have e3 : decide (t < 0) = true := by simpa using ht0
              clear ht ht0
              go_wp2_with fail
              go_ret3
              exact ⟨rfl, HB.out⟩
            · have e3 : decide (t < 0) = false := by simp; omega
              have e4 : decide (t > 65536) = true := by simp; omega
              clear ht ht0
              go_wp2_with fail
              go_ret3
              exact ⟨rfl, HB.out⟩
          · have e1 : ((m : Int) != k) = true := by simp; omega
            clear hz0 hmk
            go_wp2_with fail
            go_ret3
            exact ⟨rfl, HB.out⟩
end Go.Proofs.Ytadalodjnbnjkaa

/- Calls on a side, with all parts of memory in sight. -/
namespace Go.Proofs.Ytadalodjnbnjkaa
open Go.RowKit Go.Conc

theorem updS_self {st : Nat → Option Side} {k : Nat} {o : Option Side} (h : st k = o) : updS st k o = st := by
  funext i
  by_cases e : i = k
  · subst e; rw [updS_same, h]
  · rw [updS_other _ _ e]
section
variable {w0 w : World} {pb bb i k : Nat} {st : Nat → Option Side} {H : List Hd} {hand : Res} {s : Side}
theorem PlaySep.net (h : PlaySep w0 w pb bb st H hand) (hs : st i = some s) {N' : Nt} {e0 : Ending} {f : FuncId} {args : Array Value}
    (hc : ∀ own, NetIs w own s.A s.N → Calls Try.prog f args w (Leaves w own s.A N' e0)) : Calls Try.prog f args w fun e w' => e = e0 ∧ PlaySep w0 w' pb bb (updS st i (some { s with N := N' })) H hand := by
  obtain ⟨F, hF⟩ := h
  obtain ⟨own, hN, hb⟩ := hF.netAt hs
  refine (hc own hN).mono ?_
  rintro e w' ⟨rfl, own', h1, h2, h3⟩
  obtain ⟨F', hF', _⟩ := hF.netTurn hs hb h1 h2 h3
  exact ⟨rfl, F', hF'⟩
theorem PlaySep.ref (h : PlaySep w0 w pb bb st H hand) (hs : st i = some s) {R' : Rf} {e0 : Ending} {f : FuncId} {args : Array Value}
    (hc : ∀ own, RefIs w own s.G s.R → Calls Try.prog f args w (RLeaves w own s.G R' e0)) : Calls Try.prog f args w fun e w' => e = e0 ∧ PlaySep w0 w' pb bb (updS st i (some { s with R := R' })) H hand := by
  obtain ⟨F, hF⟩ := h
  obtain ⟨own, hN, hb⟩ := hF.refAt hs
  refine (hc own hN).mono ?_
  rintro e w' ⟨rfl, own', h1, h2, h3⟩
  obtain ⟨F', hF', _⟩ := hF.refTurn hs hb h1 h2 h3
  exact ⟨rfl, F', hF'⟩
theorem PlaySep.netSame (h : PlaySep w0 w pb bb st H hand) (hs : st i = some s) {e0 : Ending} {f : FuncId} {args : Array Value}
    (hc : ∀ own, NetIs w own s.A s.N → Calls Try.prog f args w fun e w' => e = e0 ∧ w = w') : Calls Try.prog f args w fun e w' => e = e0 ∧ PlaySep w0 w' pb bb (updS st i (some { s with N := s.N })) H hand := by
  obtain ⟨F, hF⟩ := id h
  obtain ⟨own, hN, hb⟩ := hF.netAt hs
  refine (hc own hN).mono ?_
  rintro e w' ⟨rfl, rfl⟩
  rw [updS_self hs]
  exact ⟨rfl, h⟩
theorem PlaySep.refSame (h : PlaySep w0 w pb bb st H hand) (hs : st i = some s) {e0 : Ending} {f : FuncId} {args : Array Value}
    (hc : ∀ own, RefIs w own s.G s.R → Calls Try.prog f args w fun e w' => e = e0 ∧ w = w') : Calls Try.prog f args w fun e w' => e = e0 ∧ PlaySep w0 w' pb bb (updS st i (some { s with R := s.R })) H hand := by
  obtain ⟨F, hF⟩ := id h
  obtain ⟨own, hN, hb⟩ := hF.refAt hs
  refine (hc own hN).mono ?_
  rintro e w' ⟨rfl, rfl⟩
  rw [updS_self hs]
  exact ⟨rfl, h⟩

/-! ### Pass -/
def passE (x : Int) : Int := if 0 ≤ x ∧ x ≤ 65536 then 0 else 1
def passN (N : Nt) (x : Int) : Nt := if 0 ≤ x ∧ x ≤ 65536 then N.ticks x.toNat else N
theorem PN.pass {N : Nt} (h : PN N k) (x : Int) : PN (passN N x) (k + 1) := by
  unfold passN
  split
  · exact h.ticks (by omega)
  · exact h.mono (by omega)
theorem sep_pass (h : PlaySep w0 w pb bb st H hand) (hs : st i = some s) (hp : PN s.N k) (hk : k ≤ 1048576) (x : Int) :
    Calls Try.prog 39 #[.pointer (some ⟨s.A.net, 0, none⟩), .int .i64 x] w fun e w' => e = .returned (.int .i64 (passE x)) ∧ PlaySep w0 w' pb bb (updS st i (some { s with N := passN s.N x })) H hand := by
  unfold passE passN
  by_cases hx : 0 ≤ x ∧ x ≤ 65536
  · rw [if_pos hx, if_pos hx]
    refine h.net hs fun own hN => ?_
    have := Pass_ok w own s.A s.N x.toNat hN (hp.fineR hk).fine (by omega)
    rw [Int.toNat_of_nonneg hx.1] at this
    exact this
  · rw [if_neg hx, if_neg hx]
    exact h.netSame hs fun own hN => Pass_bad w _ x (by omega)
theorem sep_rpass (h : PlaySep w0 w pb bb st H hand) (hs : st i = some s) {N : Nt} (hr : s.R = N.ref) (hp : PN N k) (hk : k ≤ 1048576) (x : Int) :
    Calls Try.prog 52 #[.pointer (some ⟨s.G, 0, none⟩), .int .i64 x] w fun e w' => e = .returned (.int .i64 (passE x)) ∧ PlaySep w0 w' pb bb (updS st i (some { s with R := (passN N x).ref })) H hand := by
  unfold passE passN
  by_cases hx : 0 ≤ x ∧ x ≤ 65536
  · rw [if_pos hx, if_pos hx]
    refine h.ref hs fun own hN => ?_
    rw [hr] at hN
    have := rPass_ok w own s.G N x.toNat hN (hp.fineR hk) (by omega)
    rw [Int.toNat_of_nonneg hx.1] at this
    exact this
  · rw [if_neg hx, if_neg hx, ← hr]
    exact h.refSame hs fun own hN => rPass_bad w _ x (by omega)

/-! ### Close -/
def closeE (N : Nt) (x : Int) : Int := if 0 ≤ x ∧ x < N.nl then (if (N.lane x.toNat).closed then 191 else 0) else 192
def closeN (N : Nt) (x : Int) : Nt := if 0 ≤ x ∧ x < N.nl then (if (N.lane x.toNat).closed then N else N.closed x.toNat) else N
theorem PN.close {N : Nt} (h : PN N k) (x : Int) : PN (closeN N x) (k + 1) := by
  unfold closeN
  split
  · split
    · exact h.mono (by omega)
    · exact (h.closed _).mono (by omega)
  · exact h.mono (by omega)
theorem sep_close (h : PlaySep w0 w pb bb st H hand) (hs : st i = some s) (x : Int) :
    Calls Try.prog 25 #[.pointer (some ⟨s.A.net, 0, none⟩), .int .i64 x] w fun e w' => e = .returned (.int .i64 (closeE s.N x)) ∧ PlaySep w0 w' pb bb (updS st i (some { s with N := closeN s.N x })) H hand := by
  unfold closeE closeN
  by_cases hx : 0 ≤ x ∧ x < s.N.nl
  · rw [if_pos hx, if_pos hx]
    have ex : ((x.toNat : Nat) : Int) = x := Int.toNat_of_nonneg hx.1
    by_cases hc : (s.N.lane x.toNat).closed = true
    · rw [if_pos hc, if_pos hc]
      refine h.netSame hs fun own hN => ?_
      have := Close_closed w own s.A s.N x.toNat hN (by omega) hc
      rw [ex] at this
      exact this
    · rw [if_neg hc, if_neg hc]
      refine h.net hs fun own hN => ?_
      have := Close_ok w own s.A s.N x.toNat hN (by omega) (by simpa using hc)
      rw [ex] at this
      exact this
  · rw [if_neg hx, if_neg hx]
    exact h.netSame hs fun own hN => Close_noLane w own s.A s.N x hN (by omega)
theorem sep_rclose (h : PlaySep w0 w pb bb st H hand) (hs : st i = some s) {N : Nt} (hr : s.R = N.ref) (x : Int) :
    Calls Try.prog 54 #[.pointer (some ⟨s.G, 0, none⟩), .int .i64 x] w fun e w' => e = .returned (.int .i64 (closeE N x)) ∧ PlaySep w0 w' pb bb (updS st i (some { s with R := (closeN N x).ref })) H hand := by
  unfold closeE closeN
  by_cases hx : 0 ≤ x ∧ x < N.nl
  · rw [if_pos hx, if_pos hx]
    have ex : ((x.toNat : Nat) : Int) = x := Int.toNat_of_nonneg hx.1
    have hi : x.toNat < N.ref.nl := by show x.toNat < N.nl; omega
    by_cases hc : (N.lane x.toNat).closed = true
    · rw [if_pos hc, if_pos hc, ← hr]
      refine h.refSame hs fun own hN => ?_
      rw [hr] at hN
      have := rClose_shut hN x.toNat hi hc
      rw [ex] at this
      exact this
    · rw [if_neg hc, if_neg hc]
      refine h.ref hs fun own hN => ?_
      rw [hr] at hN
      have := rClose_ok hN x.toNat hi (show (N.lane x.toNat).closed = false by simpa using hc)
      rw [ex, ← ref_closed] at this
      exact this
  · rw [if_neg hx, if_neg hx, ← hr]
    refine h.refSame hs fun own hN => ?_
    rw [hr] at hN
    exact rClose_no hN x (by show x < 0 ∨ (N.nl : Int) ≤ x; omega)
end
end Go.Proofs.Ytadalodjnbnjkaa

/- Calls on a side, with all parts of memory in sight: Now, Waiting, Wait, Any. -/
namespace Go.Proofs.Ytadalodjnbnjkaa
open Go.RowKit Go.Conc

section
variable {w0 w : World} {pb bb i k : Nat} {st : Nat → Option Side} {H : List Hd} {hand : Res} {s : Side}
/-! ### Now -/
theorem sep_now (h : PlaySep w0 w pb bb st H hand) (hs : st i = some s) : Calls Try.prog 16 #[.pointer (some ⟨s.A.net, 0, none⟩)] w fun e w' => e = .returned (.int .i64 s.N.now) ∧ w = w' := by
  obtain ⟨F, hF⟩ := h
  obtain ⟨own, ⟨h0, cap, fv, lv, q1, q2⟩, hb⟩ := hF.netAt hs
  exact now_any w s.A.net s.N.now (cell_of_heap q1.2 3 rfl)
theorem sep_rnow (h : PlaySep w0 w pb bb st H hand) (hs : st i = some s) {N : Nt} (hr : s.R = N.ref) : Calls Try.prog 53 #[.pointer (some ⟨s.G, 0, none⟩)] w fun e w' => e = .returned (.int .i64 N.now) ∧ w = w' := by
  obtain ⟨F, hF⟩ := h
  obtain ⟨own, hN, hb⟩ := hF.refAt hs
  rw [hr] at hN
  exact rNow_any hN

/-! ### Waiting -/
def waitingV (N : Nt) (x : Int) : Int × Int := if 0 ≤ x ∧ x < N.nl then ((N.lane x.toNat).buf.length, 0) else (0, 192)
theorem sep_waiting (h : PlaySep w0 w pb bb st H hand) (hs : st i = some s) (x : Int) :
    Calls Try.prog 15 #[.pointer (some ⟨s.A.net, 0, none⟩), .int .i64 x] w fun e w' => e = .returned (.tuple #[.int .i64 (waitingV s.N x).1, .int .i64 (waitingV s.N x).2]) ∧ w = w' := by
  obtain ⟨F, hF⟩ := h
  obtain ⟨own, ⟨h0, cap, fv, lv, q1, q2, q3, q4, q5⟩, hb⟩ := hF.netAt hs
  unfold waitingV
  by_cases hx : 0 ≤ x ∧ x < s.N.nl
  · rw [if_pos hx]
    have hi : x.toNat < s.N.nl := by omega
    obtain ⟨a1, a2, a3, vs, sn, rn, a4, a5⟩ := q5 x.toNat hi
    have := waiting_any w s.A.net s.A.arr s.N.nl cap (s.A.q x.toNat) (s.A.c x.toNat) 64 sn rn x.toNat vs _ (cell_of_heap q1.2 0 rfl) hi (q2.cell hi) (cell_of_heap a3 0 rfl) a4
    rw [a5.1, Int.toNat_of_nonneg hx.1] at this
    exact this
  · rw [if_neg hx]
    exact waiting_no w s.A.net s.N.nl cap _ x (cell_of_heap q1.2 0 rfl) (by omega)
theorem sep_rwaiting (h : PlaySep w0 w pb bb st H hand) (hs : st i = some s) {N : Nt} (hr : s.R = N.ref) (x : Int) :
    Calls Try.prog 55 #[.pointer (some ⟨s.G, 0, none⟩), .int .i64 x] w fun e w' => e = .returned (.tuple #[.int .i64 (waitingV N x).1, .int .i64 (waitingV N x).2]) ∧ w = w' := by
  obtain ⟨F, hF⟩ := h
  obtain ⟨own, hN, hb⟩ := hF.refAt hs
  rw [hr] at hN
  unfold waitingV
  by_cases hx : 0 ≤ x ∧ x < N.nl
  · rw [if_pos hx]
    have hi : x.toNat < N.ref.nl := by show x.toNat < N.nl; omega
    have := rWaiting_ok hN x.toNat hi
    rw [Int.toNat_of_nonneg hx.1] at this
    exact this
  · rw [if_neg hx]
    exact rWaiting_no hN x (by show x < 0 ∨ (N.nl : Int) ≤ x; omega)

/-! ### Wait -/
def noWr (N : Nt) (er : Int) : Wr := ⟨0, none, er, N⟩
def waitR (N : Nt) (x d : Int) : Wr := if 0 ≤ x ∧ x < N.nl then (if 0 ≤ d ∧ d ≤ 65536 then Nt.waitGo [x.toNat] d.toNat N else noWr N 1) else noWr N 192
theorem PN.waitR {N : Nt} (h : PN N k) (x d : Int) : PN (waitR N x d).net (k + 1) ∧ ∀ m, (waitR N x d).msg = some m → m.length ≤ 1048576 := by
  unfold Go.Proofs.Ytadalodjnbnjkaa.waitR
  split
  · split
    · exact h.wait _ (by omega)
    · exact ⟨h.mono (by omega), fun m hm => by cases hm⟩
  · exact ⟨h.mono (by omega), fun m hm => by cases hm⟩
/-- A list in hand, and what it reads. -/
def msgRes (a : Option Addr) (n c : Nat) (l : List Int) : Res := ⟨fun w F => (LstIs w a n c ∧ RowIn w a n l) ∧ ∀ b, F b ↔ Blk a b, fun {w w' F} ⟨⟨h1, h2⟩, h3⟩ h4 h5 h6 => by
  refine ⟨⟨((lstRes a n c).loc (w := w) (w' := w') (F := F) ⟨h1, h3⟩ h4 h5 h6).1, ?_⟩, h3⟩
  refine h2.keep fun ad had => ?_
  rcases h1 with ⟨e, _⟩ | ⟨g, cur, e, _⟩
  · rw [e] at had; cases had
  · rw [e] at had; cases had; exact h6 g ((h3 g).2 e)⟩
theorem PlaySep.inHand {hand' : Res} (h : PlaySep w0 w pb bb st H hand) (hh : ∀ F, hand.holds w F → hand'.holds w F) : PlaySep w0 w pb bb st H hand' := by
  obtain ⟨F, hF⟩ := h
  refine ⟨F, hF.mv, fun p => ?_, hF.within, hF.apart⟩
  cases p with
  | hand => exact hh _ (hF.hold .hand)
  | net j => exact hF.hold (.net j)
  | ref j => exact hF.hold (.ref j)
  | book => exact hF.hold .book
theorem PlaySep.msg {a : Option Addr} {n c : Nat} {l : List Int} (h : PlaySep w0 w pb bb st H (lstRes a n c)) (hr : RowIn w a n l) : PlaySep w0 w pb bb st H (msgRes a n c l) := h.inHand fun _ h => ⟨⟨h.1, hr⟩, h.2⟩
theorem PlaySep.lst {a : Option Addr} {n c : Nat} {l : List Int} (h : PlaySep w0 w pb bb st H (msgRes a n c l)) : PlaySep w0 w pb bb st H (lstRes a n c) := h.inHand fun _ h => ⟨h.1.1, h.2⟩
theorem PlaySep.reads {a : Option Addr} {n c : Nat} {l : List Int} (h : PlaySep w0 w pb bb st H (msgRes a n c l)) : RowIn w a n l := by
  obtain ⟨F, hF⟩ := h
  exact (hF.hold .hand).1.2
/-- What came, in hand: the list m (or none). -/
def CameH (w0 w : World) (pb bb : Nat) (st : Nat → Option Side) (H : List Hd) (o : Option (List Int)) (v : Value) : Prop :=
  ∃ a n c, v = .slice a n c ∧ n = (o.getD []).length ∧ PlaySep w0 w pb bb st H (msgRes a n c (o.getD []))
theorem PlaySep.emp (h : PlaySep w0 w pb bb st H empRes) : PlaySep w0 w pb bb st H (lstRes none 0 0) := by
  obtain ⟨F, hF⟩ := h
  have he : ∀ b, ¬ F .hand b := hF.hold .hand
  refine ⟨F, hF.mv, fun p => ?_, hF.within, hF.apart⟩
  cases p with
  | hand => exact ⟨.inl ⟨rfl, rfl, rfl⟩, fun b => ⟨fun hb => absurd hb (he b), fun hb => by cases hb⟩⟩
  | net j => exact hF.hold (.net j)
  | ref j => exact hF.hold (.ref j)
  | book => exact hF.hold .book
theorem MsgAt.lst {w : World} {g : Nat} {v : Value} {m : List Int} (h : MsgAt w g v m) : ∃ c, v = .slice (some ⟨g, 0, none⟩) m.length c ∧ LstIs w (some ⟨g, 0, none⟩) m.length c := by
  obtain ⟨cap, cur, hv, hg, h1, h2, h3, _⟩ := h
  exact ⟨cap, hv, .inr ⟨g, cur, rfl, hg, h1, h2, h3⟩⟩
theorem sep_took {f : FuncId} {args : Array Value} {mk : Value → Ending} {R : Wr} (h : PlaySep w0 w pb bb st H empRes) (hs : st i = some s)
    (hc : ∀ own, NetIs w own s.A s.N → Calls Try.prog f args w fun e w' => ∃ v, e = mk v ∧ ∃ own', NetIs w' own' s.A R.net ∧ Mv own.has w w' ∧ Grows w.heap.size own own' ∧
      match R.msg with
      | none => v = .slice none 0 0
      | some m => ∃ g, MsgAt w' g v m ∧ own' g = none ∧ (own g ≠ none ∨ w.heap.size ≤ g)) :
    Calls Try.prog f args w fun e w' => ∃ v, e = mk v ∧ CameH w0 w' pb bb (updS st i (some { s with N := R.net })) H R.msg v := by
  obtain ⟨F, hF⟩ := h
  obtain ⟨own, hN, hb⟩ := hF.netAt hs
  refine (hc own hN).mono ?_
  rintro e w' ⟨v, rfl, own', h1, h2, h3, h4⟩
  refine ⟨v, rfl, ?_⟩
  cases em : R.msg with
  | none =>
    rw [em] at h4
    have hv : v = .slice none 0 0 := h4
    obtain ⟨F', hF', _⟩ := hF.netTurn hs hb h1 h2 h3
    exact ⟨none, 0, 0, hv, rfl, (PlaySep.emp ⟨F', hF'⟩).msg ⟨rfl, .inl rfl⟩⟩
  | some m =>
    rw [em] at h4
    obtain ⟨g, hm, ho, hg⟩ : ∃ g, MsgAt w' g v m ∧ own' g = none ∧ (own g ≠ none ∨ w.heap.size ≤ g) := h4
    obtain ⟨c, hv, hl⟩ := hm.lst
    obtain ⟨c', hv', hr⟩ := RowIn.of_msg hm
    exact ⟨some ⟨g, 0, none⟩, m.length, c, hv, rfl, (hF.netTake hs hb h1 h2 h3 hl fun b hbk => by cases hbk; exact ⟨hm.lt, ho, hg⟩).msg hr⟩
theorem sep_none {f : FuncId} {args : Array Value} {mk : Value → Ending} (h : PlaySep w0 w pb bb st H empRes) (hs : st i = some s)
    (hc : ∀ own, NetIs w own s.A s.N → Calls Try.prog f args w fun e w' => e = mk (.slice none 0 0) ∧ Below w.heap.size w w') :
    Calls Try.prog f args w fun e w' => ∃ v, e = mk v ∧ CameH w0 w' pb bb (updS st i (some { s with N := s.N })) H none v := by
  obtain ⟨F, hF⟩ := id h
  obtain ⟨own, hN, hb⟩ := hF.netAt hs
  refine (hc own hN).mono ?_
  rintro e w' ⟨rfl, hbel⟩
  rw [updS_self hs]
  exact ⟨_, rfl, none, 0, 0, rfl, rfl, (PlaySep.emp (h.still (Mv.of_below hbel))).msg ⟨rfl, .inl rfl⟩⟩
theorem sep_wait (h : PlaySep w0 w pb bb st H empRes) (hs : st i = some s) (hp : PN s.N k) (hk : k ≤ 1048576) (x d : Int) :
    Calls Try.prog 19 #[.pointer (some ⟨s.A.net, 0, none⟩), .int .i64 x, .int .i64 d] w fun e w' => ∃ v, e = .returned (.tuple #[v, .int .i64 (waitR s.N x d).err]) ∧ CameH w0 w' pb bb (updS st i (some { s with N := (waitR s.N x d).net })) H (waitR s.N x d).msg v := by
  unfold waitR
  by_cases hx : 0 ≤ x ∧ x < s.N.nl
  · rw [if_pos hx]
    have ex : ((x.toNat : Nat) : Int) = x := Int.toNat_of_nonneg hx.1
    by_cases hd : 0 ≤ d ∧ d ≤ 65536
    · rw [if_pos hd]
      refine sep_took (mk := fun v => .returned (.tuple #[v, .int .i64 (Nt.waitGo [x.toNat] d.toNat s.N).err])) h hs fun own hN => ?_
      have := Wait_ok w own s.A s.N x.toNat d.toNat hN (hp.fineR hk).fine (by omega) (by omega)
      rw [ex, Int.toNat_of_nonneg hd.1] at this
      exact this
    · rw [if_neg hd]
      refine sep_none (mk := fun v => .returned (.tuple #[v, .int .i64 1])) h hs fun own hN => ?_
      have := Wait_badTicks w own s.A s.N x.toNat d hN (by omega) (by omega)
      rw [ex] at this
      refine this.mono ?_
      rintro e w' ⟨rfl, rfl⟩
      exact ⟨rfl, Below.refl _ _⟩
  · rw [if_neg hx]
    refine sep_none (mk := fun v => .returned (.tuple #[v, .int .i64 192])) h hs fun own hN => ?_
    refine (Wait_noLane w own s.A s.N x _ hN (by omega)).mono ?_
    rintro e w' ⟨rfl, rfl⟩
    exact ⟨rfl, Below.refl _ _⟩
/-- The document's answer: read it may be, no more. -/
def RCame (w0 w : World) (pb bb : Nat) (st : Nat → Option Side) (H : List Hd) (hand : Res) (o : Option (List Int)) (v : Value) : Prop :=
  PlaySep w0 w pb bb st H hand ∧ ∃ a n c, v = .slice a n c ∧ n = (o.getD []).length ∧ RowIn w a n (o.getD [])
theorem sep_rwait (h : PlaySep w0 w pb bb st H hand) (hs : st i = some s) {N : Nt} (hr : s.R = N.ref) (hp : PN N k) (hk : k ≤ 1048576) (x d : Int) :
    Calls Try.prog 58 #[.pointer (some ⟨s.G, 0, none⟩), .int .i64 x, .int .i64 d] w fun e w' => ∃ v, e = .returned (.tuple #[v, .int .i64 (waitR N x d).err]) ∧ RCame w0 w' pb bb (updS st i (some { s with R := (waitR N x d).net.ref })) H hand (waitR N x d).msg v := by
  obtain ⟨F, hF⟩ := id h
  obtain ⟨own, hN, hb⟩ := hF.refAt hs
  have hsame : updS st i (some { s with R := N.ref }) = st := by rw [← hr]; exact updS_self hs
  have hN' := hN
  rw [hr] at hN'
  unfold waitR
  by_cases hx : 0 ≤ x ∧ x < N.nl
  · rw [if_pos hx]
    have ex : ((x.toNat : Nat) : Int) = x := Int.toNat_of_nonneg hx.1
    by_cases hd : 0 ≤ d ∧ d ≤ 65536
    · rw [if_pos hd]
      have := rWait_ok w own s.G N x.toNat d.toNat hN' (hp.fineR hk) (by omega) (by omega)
      rw [ex, Int.toNat_of_nonneg hd.1] at this
      refine this.mono ?_
      rintro e w' ⟨u, rfl, own', h1, h2, h3, h4⟩
      obtain ⟨F', hF', _⟩ := hF.refTurn hs hb h1 h2 h3
      refine ⟨u, rfl, ⟨F', hF'⟩, ?_⟩
      cases em : (Nt.waitGo [x.toNat] d.toNat N).msg with
      | none =>
        rw [em] at h4
        exact ⟨none, 0, 0, h4, rfl, rfl, .inl rfl⟩
      | some m =>
        rw [em] at h4
        obtain ⟨a, c, hu, hrow, _⟩ : DatIs w' own' u m := h4
        exact ⟨a, m.length, c, hu, rfl, hrow⟩
    · rw [if_neg hd]
      have := rWait_badTicks hN' x.toNat d (show x.toNat < N.nl by omega) (by omega)
      rw [ex] at this
      refine this.mono ?_
      rintro e w' ⟨rfl, rfl⟩
      exact ⟨_, rfl, by rw [show (noWr N 1).net = N from rfl, hsame]; exact h, none, 0, 0, rfl, rfl, rfl, .inl rfl⟩
  · rw [if_neg hx]
    refine (rWait_noLane hN' x _ (by show x < 0 ∨ (N.nl : Int) ≤ x; omega)).mono ?_
    rintro e w' ⟨rfl, rfl⟩
    exact ⟨_, rfl, by rw [show (noWr N 192).net = N from rfl, hsame]; exact h, none, 0, 0, rfl, rfl, rfl, .inl rfl⟩
end
end Go.Proofs.Ytadalodjnbnjkaa

/- Calls on a side, with all parts of memory in sight: Any, and what is in hand. -/
namespace Go.Proofs.Ytadalodjnbnjkaa
open Go.RowKit Go.Conc

/-- One block in hand, as it is. -/
def blkRes (g : Nat) (o : Obj) : Res := ⟨fun w F => w.heap[g]? = some o ∧ ∀ b, F b ↔ b = g, fun ⟨h1, h2⟩ _ _ h5 => ⟨(h5 g ((h2 g).2 rfl)).trans h1, h2⟩⟩
/-- One block, and a list and what it reads. -/
def pairRes (g : Nat) (o : Obj) (a : Option Addr) (n c : Nat) (l : List Int) : Res := ⟨fun w F => (w.heap[g]? = some o ∧ LstIs w a n c ∧ RowIn w a n l ∧ ¬ Blk a g) ∧ ∀ b, F b ↔ (b = g ∨ Blk a b), fun {w w' F} ⟨⟨h0, h1, h2, h2'⟩, h3⟩ h4 h5 h6 => by
  refine ⟨⟨(h6 g ((h3 g).2 (.inl rfl))).trans h0, ?_, ?_, h2'⟩, h3⟩
  · rcases h1 with h1 | ⟨g', cur, e, h7, h8⟩
    · exact .inl h1
    · exact .inr ⟨g', cur, e, (h6 g' ((h3 g').2 (.inr e))).trans h7, h8⟩
  · refine h2.keep fun ad had => ?_
    rcases h1 with ⟨e, _⟩ | ⟨g', cur, e, _⟩
    · rw [e] at had; cases had
    · rw [e] at had; cases had; exact h6 g' ((h3 g').2 (.inr e))⟩
section
variable {w0 w w' : World} {pb bb i k : Nat} {st : Nat → Option Side} {H : List Hd} {hand : Res} {s : Side}
/-- What is in hand is turned (new blocks it may take, some it may leave); the rest stays. -/
theorem SepF.handTurn {F : Part → Nat → Prop} {hand' : Res} {Fh : Nat → Prop} (h : SepF w0 w (resOf pb bb st H hand) F) (hm : Mv (F .hand) w w') (hh : hand'.holds w' Fh) (hl : ∀ b, Fh b → b < w'.heap.size ∧ (F .hand b ∨ w.heap.size ≤ b)) : PlaySep w0 w' pb bb st H hand' := by
  classical
  refine ⟨fun p => if p = .hand then Fh else F p, h.go (fun p => p = .hand) (fun p hp => ⟨?_, if_neg hp⟩) (fun p hp => ?_) (hm.mono fun b _ hb => ⟨.hand, rfl, hb⟩) (fun p b hp hb => ?_) (fun p q b hp hq _ _ => hp.trans hq.symm)⟩
  · cases p <;> first | rfl | exact absurd rfl hp
  · subst hp
    rw [if_pos rfl]
    exact hh
  · subst hp
    rw [if_pos rfl] at hb
    obtain ⟨h1, h2⟩ := hl b hb
    exact ⟨h1, h2.imp (fun e => ⟨.hand, rfl, e⟩) id⟩
theorem PlaySep.put {g : Nat} {o : Obj} (h : PlaySep w0 w pb bb st H empRes) (hb : Mv (fun _ => False) w w') (hg : w.heap.size ≤ g) (ho : w'.heap[g]? = some o) : PlaySep w0 w' pb bb st H (blkRes g o) := by
  obtain ⟨F, hF⟩ := h
  refine hF.handTurn (Fh := fun b => b = g) (hb.mono fun _ _ e => e.elim) ⟨ho, fun b => Iff.rfl⟩ (fun b hb => ?_)
  subst hb
  exact ⟨lt_of_heap ho, .inr hg⟩
theorem PlaySep.drop (h : PlaySep w0 w pb bb st H hand) : PlaySep w0 w pb bb st H empRes := by
  obtain ⟨F, hF⟩ := h
  exact hF.handTurn (Fh := fun _ => False) (Mv.refl _ _) (fun b hb => hb) (fun b hb => hb.elim)
theorem PlaySep.block {g : Nat} {o : Obj} (h : PlaySep w0 w pb bb st H (blkRes g o)) : w.heap[g]? = some o := by
  obtain ⟨F, hF⟩ := h
  exact (hF.hold .hand).1
theorem PlaySep.block2 {g : Nat} {o : Obj} {a : Option Addr} {n c : Nat} {l : List Int} (h : PlaySep w0 w pb bb st H (pairRes g o a n c l)) : w.heap[g]? = some o := by
  obtain ⟨F, hF⟩ := h
  exact (hF.hold .hand).1.1
theorem PlaySep.unpair {g : Nat} {o : Obj} {a : Option Addr} {n c : Nat} {l : List Int} (h : PlaySep w0 w pb bb st H (pairRes g o a n c l)) : PlaySep w0 w pb bb st H (msgRes a n c l) := by
  obtain ⟨F, hF⟩ := h
  obtain ⟨⟨_, h1, h2, _⟩, h3⟩ : (w.heap[g]? = some o ∧ LstIs w a n c ∧ RowIn w a n l ∧ ¬ Blk a g) ∧ ∀ b, F .hand b ↔ (b = g ∨ Blk a b) := hF.hold .hand
  refine hF.handTurn (Fh := Blk a) (Mv.refl _ _) ⟨⟨h1, h2⟩, fun b => Iff.rfl⟩ (fun b hb => ?_)
  have := (h3 b).2 (.inr hb)
  exact ⟨(hF.within .hand b this).2, .inl this⟩
/-- The block in hand is written. -/
theorem PlaySep.wrote {g : Nat} {o o' : Obj} (h : PlaySep w0 w pb bb st H (blkRes g o)) (hm : Mv (fun b => b = g) w w') (ho : w'.heap[g]? = some o') : PlaySep w0 w' pb bb st H (blkRes g o') := by
  obtain ⟨F, hF⟩ := h
  have h3 : ∀ b, F .hand b ↔ b = g := (hF.hold .hand).2
  refine hF.handTurn (Fh := fun b => b = g) (hm.mono fun b _ e => (h3 b).2 e) ⟨ho, fun b => Iff.rfl⟩ (fun b hb => ?_)
  subst hb
  exact ⟨lt_of_heap ho, .inl ((h3 b).2 rfl)⟩
/-- A call on net k that gives a message out, a block in hand. -/
theorem SepF.netPair {F : Part → Nat → Prop} {g : Nat} {o : Obj} (h : SepF w0 w (resOf pb bb st H (blkRes g o)) F) (hs : st k = some s) {own own' : Own} {N' : Nt} (hF : ∀ b, F (.net k) b ↔ own b ≠ none) (hN : NetIs w' own' s.A N') (hm : Mv own.has w w') (hg : Grows w.heap.size own own')
    {a : Option Addr} {n c : Nat} {l : List Int} (hl : LstIs w' a n c) (hr : RowIn w' a n l) (hla : ∀ b, Blk a b → b < w'.heap.size ∧ own' b = none ∧ (own b ≠ none ∨ w.heap.size ≤ b)) :
    PlaySep w0 w' pb bb (updS st k (some { s with N := N' })) H (pairRes g o a n c l) := by
  classical
  obtain ⟨hgo, hgF⟩ : w.heap[g]? = some o ∧ ∀ b, F .hand b ↔ b = g := h.hold .hand
  have hgl := lt_of_heap hgo
  have hgn : own g = none := by
    cases e : own g with
    | none => rfl
    | some t => exact absurd (h.apart (.net k) .hand g ((hF g).2 (by rw [e]; simp)) ((hgF g).2 rfl)) (by simp)
  have hag : ¬ Blk a g := fun e => by
    rcases (hla g e).2.2 with e2 | e2
    · exact e2 hgn
    · omega
  have hgo' : w'.heap[g]? = some o := (hm.block g hgl (fun e => e hgn)).trans hgo
  have hgn' : own' g = none := hg g hgl hgn
  refine ⟨fun p => if p = .net k then fun b => own' b ≠ none else if p = .hand then fun b => b = g ∨ Blk a b else F p, h.go (fun p => p = .net k ∨ p = .hand) (fun p hp => ?_) (fun p hp => ?_) (hm.mono fun b _ hb => ⟨.net k, .inl rfl, (hF b).2 hb⟩) (fun p b hp hb => ?_) (fun p q b hp hq h1 h2 => ?_)⟩
  · have e1 : p ≠ .net k := fun e => hp (.inl e)
    have e2 : p ≠ .hand := fun e => hp (.inr e)
    refine ⟨?_, by rw [if_neg e1, if_neg e2]⟩
    rw [resOf_net hs N' e1]
    cases p <;> first | rfl | exact absurd rfl e2
  · rcases hp with rfl | rfl
    · simp only [resOf, updS_same, sideNet, netRes, if_pos]
      exact ⟨own', hN, fun b => Iff.rfl⟩
    · exact ⟨⟨hgo', hl, hr, hag⟩, fun b => by rw [if_neg (by simp), if_pos rfl]⟩
  · rcases hp with rfl | rfl
    · simp only [if_pos] at hb
      obtain ⟨t, ht⟩ := Option.ne_none_iff_exists'.1 hb
      refine ⟨hN.1 b t ht, ?_⟩
      rcases Nat.lt_or_ge b w.heap.size with hl | hl
      · exact .inl ⟨.net k, .inl rfl, (hF b).2 fun e => hb (hg b hl e)⟩
      · exact .inr hl
    · rw [if_neg (by simp), if_pos rfl] at hb
      rcases hb with rfl | hb
      · exact ⟨lt_of_heap hgo', .inl ⟨.hand, .inr rfl, (hgF b).2 rfl⟩⟩
      · obtain ⟨q1, _, q3⟩ := hla b hb
        exact ⟨q1, q3.imp (fun e => ⟨.net k, .inl rfl, (hF b).2 e⟩) id⟩
  · have key : ∀ b, own' b ≠ none → (b = g ∨ Blk a b) → False := fun b e1 e2 => by
      rcases e2 with rfl | e2
      · exact e1 hgn'
      · exact e1 (hla b e2).2.1
    rcases hp with rfl | rfl <;> rcases hq with rfl | rfl
    · rfl
    · rw [if_neg (by simp), if_pos rfl] at h2
      simp only [if_pos] at h1
      exact (key b h1 h2).elim
    · rw [if_neg (by simp), if_pos rfl] at h1
      simp only [if_pos] at h2
      exact (key b h2 h1).elim
    · rfl
end
end Go.Proofs.Ytadalodjnbnjkaa
