/- drained: the lane gives just these. -/
import Derived.Test.YtadalodjnbnjkaaBecome6
namespace Go.Proofs.Ytadalodjnbnjkaa
open Go.RowKit Go.Conc

/-- The list of what must come, held beside a net. -/
def ListHeld (w : World) (K : List Nat) (wr : World) (v : Value) (L : List Cm) : Prop :=
  ∃ ad cap, v = .slice ad L.length cap ∧ (∀ i x, L[i]? = some x → ∃ g, ad = some ⟨g, 0, none⟩ ∧ (g ∈ K ∨ g < w.heap.size) ∧ wr.cell? ⟨g, i * 4, none⟩ = some (.int .i64 x.at') ∧ wr.cell? ⟨g, i * 4 + 1, none⟩ = some (.int .i64 x.direct) ∧
    wr.cell? ⟨g, i * 4 + 2, none⟩ = some (.int .i64 x.number) ∧ wr.cell? ⟨g, i * 4 + 3, none⟩ = some (.slice x.a x.n x.c)) ∧
    ∀ x ∈ L, x.n = x.data.length ∧ RowIn wr x.a x.n x.data ∧ x.data.length ≤ 4096 ∧ (x.n ≠ 0 → ∀ ad, x.a = some ad → ad.block ∈ K ∨ ad.block < w.heap.size)
theorem ListHeld.kept {w wr w' : World} {K : List Nat} {v : Value} {L : List Cm} (h : ListHeld w K wr v L) (hk : Kept w K wr w') : ListHeld w K w' v L := by
  obtain ⟨ad, cap, hv, hc, hr⟩ := h
  refine ⟨ad, cap, hv, fun i x hx => ?_, fun x hx => ?_⟩
  · obtain ⟨g, h0, hg, h1, h2, h3, h4⟩ := hc i x hx
    have e : ∀ j, w'.cell? ⟨g, j, none⟩ = wr.cell? ⟨g, j, none⟩ := fun j => World.cell?_of_block (w := wr) (a := ⟨g, j, none⟩) (hk.2 g hg)
    exact ⟨g, h0, hg, (e _).trans h1, (e _).trans h2, (e _).trans h3, (e _).trans h4⟩
  · obtain ⟨r1, r2, r3, r4⟩ := hr x hx
    refine ⟨r1, ?_, r3, r4⟩
    by_cases h0 : x.n = 0
    · exact ⟨r2.1, .inl h0⟩
    · exact r2.keep fun ad ha => hk.2 ad.block (r4 h0 ad ha)
theorem ListHeld.heap {w wr w' : World} {K : List Nat} {v : Value} {L : List Cm} (h : ListHeld w K wr v L) (hk : w'.heap = wr.heap) : ListHeld w K w' v L :=
  h.kept ⟨by rw [hk]; exact Nat.le_refl _, fun b _ => by rw [hk]⟩
theorem ListHeld.of_due {w wr : World} {B : Nat} {v : Value} {L : List Cm} (h : DueIn B w.heap.size wr v L) : ListHeld w (List.range' B (wr.heap.size - B)) wr v L := by
  obtain ⟨⟨ad, cap, hv, hc, hs, ho⟩, hr⟩ := h
  refine ⟨ad, cap, hv, fun i x hx => ?_, fun x hx => ?_⟩
  · obtain ⟨g, h0, h1, h2, h3, h4⟩ := hc i x hx
    have hl := World.block_lt_of_cell? wr _ h1
    have hl' : g < wr.heap.size := hl
    have hb := ho g (by rw [hv, h0]; rfl)
    exact ⟨g, h0, .inl (by rw [List.mem_range'_1]; omega), h1, h2, h3, h4⟩
  · obtain ⟨r1, r2, r3, r4⟩ := hr x hx
    refine ⟨r1, r2, r3, fun h0 ad ha => ?_⟩
    rcases r4 h0 ad ha with h | h
    · exact .inr h
    · obtain ⟨b, off, hb, hcc⟩ := r2.2.resolve_left h0
      have hl := World.block_lt_of_cell? wr _ (hcc 0 (by omega))
      rw [ha] at hb
      cases hb
      have hl' : b < wr.heap.size := hl
      have h' : B ≤ b := h
      exact .inl (by show b ∈ _; rw [List.mem_range'_1]; omega)
/-- Every block that has come since B joins. -/
theorem Holds.range {w wr w' : World} {A : Ga} {N : Nt} (h : Holds w A N [] wr) (hb : Below wr.heap.size wr w') : Holds w A N (List.range' wr.heap.size (w'.heap.size - wr.heap.size)) w' := by
  have hs := hb.size
  obtain ⟨own, h1, h2, h3, h4⟩ := h
  refine ⟨own, h1.still (Mv.of_below hb), h2.trans (Mv.of_below hb), h3, fun b hb => ?_⟩
  rw [List.mem_range'_1] at hb
  exact ⟨h1.1.none hb.1, by omega⟩

section
variable {w wr : World} {A : Ga} {N : Nt} {K : List Nat}
def WaitM (w : World) (A : Ga) (N' : Nt) (m : List Int) (K : List Nat) (wr : World) (e : Ending) (w' : World) : Prop :=
  ∃ g c, e = .returned (.tuple #[.slice (some ⟨g, 0, none⟩) m.length c, .int .i64 0]) ∧ RowIn w' (some ⟨g, 0, none⟩) m.length m ∧ Holds w A N' (g :: K) w' ∧ Kept w K wr w'
theorem Holds.waitM (h : Holds w A N K wr) (hf : Fine N) (i t : Nat) (hi : i < N.nl) (ht : t ≤ 65536) {m : List Int} {x : Int} {N' : Nt} (hm : Nt.waitGo [i] t N = ⟨x, some m, 0, N'⟩) :
    Calls Try.prog 19 #[.pointer (some ⟨A.net, 0, none⟩), .int .i64 i, .int .i64 t] wr (WaitM w A N' m K wr) := by
  have := h.wait hf i t hi ht m (by rw [hm])
  rw [hm] at this
  exact this
def WaitE (w : World) (A : Ga) (N' : Nt) (er : Int) (K : List Nat) (wr : World) (e : Ending) (w' : World) : Prop :=
  e = .returned (.tuple #[.slice none 0 0, .int .i64 er]) ∧ Holds w A N' K w' ∧ Kept w K wr w'
theorem Holds.waitE (h : Holds w A N K wr) (hf : Fine N) (i t : Nat) (hi : i < N.nl) (ht : t ≤ 65536) {x er : Int} {N' : Nt} (hm : Nt.waitGo [i] t N = ⟨x, none, er, N'⟩) :
    Calls Try.prog 19 #[.pointer (some ⟨A.net, 0, none⟩), .int .i64 i, .int .i64 t] wr (WaitE w A N' er K wr) := by
  have := h.waitNone hf i t hi ht (by rw [hm])
  rw [hm] at this
  exact this
end

/-- A round of drained, plain. -/
theorem drain_round {N : Nt} {B k num : Nat} {x : Cm} {L : List Cm} (hg : Going N B) (hd : Due (x :: L) (view k N) num) (hl : (x :: L).length < 64) :
    ∃ y N', Nt.waitGo [k] 100 N = ⟨y, some x.data, 0, N'⟩ ∧ Going N' (B + 100) ∧ Due L (view k N') num ∧ N'.now = max N.now x.at' := by
  have hn := hd.near x (by simp)
  obtain ⟨o', q1, q2, q3⟩ := Due.wait hl 100 (view k N) hd (by omega)
  obtain ⟨a1, a2, a3⟩ := view_wait k 100 N (hg.opn k)
  rw [q1] at a1 a2 a3
  simp only [Option.isSome_some, if_true] at a3
  have e1 := Wr.eta (Nt.waitGo [k] 100 N)
  rw [a1, a3] at e1
  have hg' := hg.wait k 100
  refine ⟨_, _, e1, hg', by rw [a2]; exact q2, ?_⟩
  have : (view k (Nt.waitGo [k] 100 N).net).now = (Nt.waitGo [k] 100 N).net.now := rfl
  rw [← this, a2, q3]; rfl
theorem drain_end {N : Nt} {B k num : Nat} (hk : k < 2) (hg : Going N B) (hd : Due [] (view k N) num) :
    Nt.waitGo [k] 100 (N.closed k) = ⟨0, none, 191, N.closed k⟩ ∧ (B ≤ 1000000 → Fine (N.closed k)) ∧ (N.closed k).now = N.now := by
  obtain ⟨h1, h2⟩ := hd.nil
  have hb : (N.lane k).buf = [] := h1
  have hc : cnt k N.later = 0 := by
    have : lateOf k N.later = [] := h2
    unfold lateOf at this
    unfold cnt
    simpa using congrArg List.length this
  have hco := hg.ok.coming k (by rw [hg.nl]; exact hk)
  refine ⟨?_, fun hB => ?_, rfl⟩
  · refine waitGo_end ?_ ?_
    · rw [closed_same]; exact hb
    · rw [closed_same]
      unfold Lq.shut
      simp [hco, hc]
  · have hf := hg.fine hB
    refine ⟨⟨hf.ok.fates, hf.ok.later, fun i hi => ?_⟩, hf.now, hf.later, hf.due⟩
    by_cases hi2 : i = k
    · subst hi2; rw [closed_same]; exact hf.ok.coming i hi
    · rw [closed_other _ hi2]; exact hf.ok.coming i hi

def thereN (L : List Cm) (t : Nat) : Nat := (L.filter (fun x => decide (x.at' ≤ t))).length
theorem thereN_succ {L : List Cm} {t k : Nat} {x : Cm} (h : L[k]? = some x) : thereN (L.take (k + 1)) t = thereN (L.take k) t + (if x.at' ≤ t then 1 else 0) := by
  have hk := List.getElem?_eq_some_iff.1 h
  unfold thereN
  rw [List.take_succ_eq_append_getElem hk.1, hk.2, List.filter_append, List.length_append]
  by_cases hx : x.at' ≤ t <;> simp [hx]
theorem thereN_le (L : List Cm) (t : Nat) : thereN L t ≤ L.length := List.length_filter_le _ _

def drainS (w : World) (A : Ga) (K : List Nat) (k num B : Nat) (v : Value) (L : List Cm) (j : Nat) (tv : Value) (wr : World) : Prop :=
  ∃ N, tv = .int .i64 (N.now : Nat) ∧ Holds w A N K wr ∧ Going N (B + 100 * j) ∧ Due (L.drop j) (view k N) num ∧ ListHeld w K wr v L

set_option maxRecDepth 100000 in
set_option maxHeartbeats 3200000 in
theorem drained_any (w wr : World) (A : Ga) (N : Nt) (K : List Nat) (k num : Nat) (hk : k < 2) (v : Value) (L : List Cm) (hH : Holds w A N K wr) (hG : Going N 1000) (hD : Due L (view k N) num) (hl : L.length ≤ 48) (hL : ListHeld w K wr v L) :
    Calls Try.prog 28 #[.pointer (some ⟨A.net, 0, none⟩), .int .i64 k, v, .int .i64 N.now] wr fun e w' => e = .returned (.bool true) ∧ Below w.heap.size w w' := by
  have HH := Lib.hid hH
  have HG := Lib.hid hG
  have HD := Lib.hid hD
  have HL := Lib.hid hL
  obtain ⟨ad, cap, rfl, hcells, _⟩ := hL
  have HC := Lib.hid hcells
  obtain ⟨n, hn⟩ : ∃ n, n = L.length := ⟨_, rfl⟩
  rw [← hn] at hl ⊢
  have HN := Lib.hid hn
  obtain ⟨t0, ht0⟩ : ∃ t, t = N.now := ⟨_, rfl⟩
  rw [← ht0]
  have HT0 := Lib.hid ht0
  have htb : t0 ≤ 1000 := by have := hG.now; omega
  clear hcells hn hH hG hD ht0
  go_enter Try.func28, Try.ntmps28
  go_wp2_with fail
  go_loop [9, 10] (fun th i => ∃ j : Nat, j ≤ n ∧ i = .int .i64 j ∧ th = .int .i64 (thereN (L.take j) t0 : Nat)) (fun _ i => n - (intOf i).toNat)
  case atStart => exact ⟨0, Nat.zero_le _, rfl, rfl⟩
  case round =>
    obtain ⟨j, hj, rfl, rfl⟩ := hrel
    by_cases hlt : j < n
    · have hlt' : (j : Int) < n := by omega
      have hj0 : (0 : Int) ≤ j := by omega
      obtain ⟨x, hx⟩ : ∃ y, L[j]? = some y := ⟨_, List.getElem?_eq_getElem (by rw [← HN.out]; exact hlt)⟩
      obtain ⟨g, rfl, _, s0, _, _, _⟩ := HC.out j x hx
      obtain ⟨xa, hxa⟩ : ∃ y, y = x.at' := ⟨_, rfl⟩
      rw [← hxa] at s0
      have hth := thereN_succ (t := t0) hx
      rw [← hxa] at hth
      have HTH := Lib.hid hth
      have hle : thereN (L.take j) t0 ≤ 48 := by have := thereN_le (L.take j) t0; rw [List.length_take] at this; omega
      obtain ⟨c, hc⟩ : ∃ c, c = thereN (L.take j) t0 := ⟨_, rfl⟩
      rw [← hc] at hle ⊢
      have HCC := Lib.hid hc
      clear hth hxa hx hc
      by_cases hat : xa ≤ t0
      · have hat' : (xa : Int) ≤ t0 := by omega
        go_wp2_with fail
        go_round
        case rel => exact ⟨j + 1, by omega, by go_num, by rw [HTH.out, if_pos hat, ← HCC.out]; go_num⟩
        case measure => simp [intOf]; omega
      · have hat' : ¬ (xa : Int) ≤ t0 := by omega
        go_wp2_with fail
        go_round
        case rel => exact ⟨j + 1, by omega, by go_num, by rw [HTH.out, if_neg hat, ← HCC.out]; go_num⟩
        case measure => simp [intOf]; omega
    · have hlt' : ¬ (j : Int) < n := by omega
      obtain rfl : j = n := by omega
      have hw := HH.out.waiting k (by rw [HG.out.nl]; exact hk)
      have hth : (N.lane k).buf.length = thereN (L.take j) t0 := by
        have := HD.out.there
        rw [List.take_of_length_le (by rw [HN.out]; omega), HT0.out]
        exact this
      rw [hth] at hw
      obtain ⟨c, hc⟩ : ∃ c, c = thereN (L.take j) t0 := ⟨_, rfl⟩
      rw [← hc] at hw ⊢
      have HW := Lib.hid hw
      have hcc : ((c : Int) != c) = false := by simp
      have hS : drainS w A K k num 1000 (.slice ad j cap) L 0 (.int .i64 t0) wr := ⟨N, by rw [HT0.out], HH.out, HG.out, HD.out, by rw [HN.out]; exact HL.out⟩
      have HS := Lib.hid hS
      clear hw hth hc hS
      go_wp2_with fail
      refine HW.out.mono ?_
      rintro e w' ⟨rfl, rfl⟩
      go_wp2_with (first
        | (go_at_call 13; refine (num_any _ _).mono ?_; rintro r w' ⟨rfl, rfl⟩))
      clear HW hcc HD HG HH HL htb HT0
      go_loopw [3, 13] (fun tv i wr => ∃ q : Nat, q ≤ j ∧ i = .int .i64 q ∧ drainS w A K k num 1000 (.slice ad j cap) L q tv wr) (fun _ i _ => j - (intOf i).toNat)
      case atStart => exact ⟨0, Nat.zero_le _, rfl, HS.out⟩
      case round =>
        obtain ⟨q, hq, rfl, M, rfl, hH, hG, hD, hL⟩ := hrel
        have HH := Lib.hid hH
        have HG := Lib.hid hG
        have HL := Lib.hid hL
        by_cases hlt : q < j
        · have hlt' : (q : Int) < j := by omega
          have hq0 : (0 : Int) ≤ q := by omega
          have hdrop : L.drop q = L[q]'(by rw [← HN.out]; exact hlt) :: L.drop (q + 1) := List.drop_eq_getElem_cons (by rw [← HN.out]; exact hlt)
          obtain ⟨x, hx⟩ : ∃ y, L[q]? = some y := ⟨_, List.getElem?_eq_getElem (by rw [← HN.out]; exact hlt)⟩
          have hxe : L[q]'(by rw [← HN.out]; exact hlt) = x := (List.getElem?_eq_some_iff.1 hx).2
          rw [hxe] at hdrop
          rw [hdrop] at hD
          have hlen : (x :: L.drop (q + 1)).length < 64 := by rw [← hdrop, List.length_drop, ← HN.out]; omega
          obtain ⟨y, M', hwait, hG', hD', hnow⟩ := drain_round hG hD hlen
          have hfine : Fine M := hG.fine (by omega)
          have hki : k < M.nl := by rw [hG.nl]; exact hk
          have hcall := hH.waitM hfine k 100 hki (by omega) hwait
          have HCALL := Lib.hid hcall
          have HG' := Lib.hid hG'
          have HD' := Lib.hid hD'
          have HNOW := Lib.hid hnow
          have HX := Lib.hid hx
          clear hH hG hD hL hdrop hxe hlen hwait hG' hD' hnow hfine hki hcall HS hx
          go_wp2_with fail
          refine HCALL.out.mono ?_
          rintro e w1 ⟨g1, c1, rfl, hr1, hH1, hk1⟩
          obtain ⟨_, _, hv, hcells, hrows⟩ := HL.out.kept hk1
          cases hv
          obtain ⟨g, rfl, hgK, s0, s1, s2, s3⟩ := hcells q x HX.out
          obtain ⟨r1, r2, r3, r4⟩ := hrows x (List.mem_of_getElem? HX.out)
          have HH1 := Lib.hid hH1
          have HR1 := Lib.hid hr1
          have HR2 := Lib.hid r2
          have HL1 := Lib.hid (HL.out.kept hk1)
          obtain ⟨xa, hxa⟩ : ∃ z, z = x.at' := ⟨_, rfl⟩
          obtain ⟨xd, hxd⟩ : ∃ z, z = x.data := ⟨_, rfl⟩
          obtain ⟨xn, hxn⟩ : ∃ z, z = x.n := ⟨_, rfl⟩
          obtain ⟨xad, hxad⟩ : ∃ z, z = x.a := ⟨_, rfl⟩
          obtain ⟨xc, hxc⟩ : ∃ z, z = x.c := ⟨_, rfl⟩
          rw [← hxa] at s0
          rw [← hxn, ← hxad, ← hxc] at s3
          rw [← hxd] at r3
          have HXA := Lib.hid hxa
          have HXD := Lib.hid hxd
          have HXN := Lib.hid hxn
          have HXAD := Lib.hid hxad
          clear hr1 hH1 hk1 hcells hrows s1 s2 r1 r2 r4 hxa hxd hxn hxad hxc HCALL
          obtain ⟨mn, hmn⟩ : ∃ z, z = M.now := ⟨_, rfl⟩
          rw [← hmn]
          have HMN := Lib.hid hmn
          clear hmn
          have hsame := sameB_self x.data
          have hsm := (HH1.out.same HR1.out (c1 := c1) (c2 := xc) HR2.out (by rw [← HXD.out]; omega))
          rw [hsame, ← HXN.out, ← HXAD.out, ← HXD.out] at hsm
          have HSM := Lib.hid hsm
          rw [← HXD.out]
          have hnw := HH1.out.now
          rw [HNOW.out, ← HMN.out, ← HXA.out] at hnw
          clear hsame hsm r3
          by_cases hgt : mn < xa
          · have hgt' : (mn : Int) < xa := by omega
            have hmx : max mn xa = xa := by omega
            rw [hmx] at hnw
            have HNW := Lib.hid hnw
            have hne : ((xa : Int) != xa) = false := by simp
            clear hnw hmx
            go_wp2_with fail
            refine HNW.out.mono ?_
            rintro e w2 ⟨rfl, rfl⟩
            go_wp2_with fail
            refine HSM.out.mono ?_
            rintro e w2 ⟨rfl, hH2, hh2⟩
            have HH2 := Lib.hid hH2
            have HL2 := Lib.hid (HL1.out.heap hh2)
            clear hH2 hh2
            go_wp2_with (first | (go_at_call 13; refine (num_any _ _).mono ?_; rintro r w' ⟨rfl, rfl⟩))
            go_roundw
            case rel => exact ⟨q + 1, by omega, by go_num, M', by rw [HNOW.out, ← HMN.out, ← HXA.out, Nat.max_eq_right (by omega)], HH2.out.sub (fun b hb => by simp [hb]), HG'.out.more (by omega), HD'.out, HL2.out⟩
            case measure => simp [intOf]; omega
          · have hgt' : ¬ (mn : Int) < xa := by omega
            have hmx : max mn xa = mn := by omega
            rw [hmx] at hnw
            have HNW := Lib.hid hnw
            have hne : ((mn : Int) != mn) = false := by simp
            clear hnw hmx
            go_wp2_with fail
            refine HNW.out.mono ?_
            rintro e w2 ⟨rfl, rfl⟩
            go_wp2_with fail
            refine HSM.out.mono ?_
            rintro e w2 ⟨rfl, hH2, hh2⟩
            have HH2 := Lib.hid hH2
            have HL2 := Lib.hid (HL1.out.heap hh2)
            clear hH2 hh2
            go_wp2_with (first | (go_at_call 13; refine (num_any _ _).mono ?_; rintro r w' ⟨rfl, rfl⟩))
            go_roundw
            case rel => exact ⟨q + 1, by omega, by go_num, M', by rw [HNOW.out, ← HMN.out, ← HXA.out, Nat.max_eq_left (by omega)], HH2.out.sub (fun b hb => by simp [hb]), HG'.out.more (by omega), HD'.out, HL2.out⟩
            case measure => simp [intOf]; omega
        · have hlt' : ¬ (q : Int) < j := by omega
          obtain rfl : q = j := by omega
          rw [List.drop_of_length_le (by rw [← HN.out]; omega)] at hD
          obtain ⟨hwait, hfine, hnow⟩ := drain_end hk hG hD
          have hki : k < M.nl := by rw [hG.nl]; exact hk
          have hcl := hH.close k hki (hG.opn k)
          have HCL := Lib.hid hcl
          have HW := Lib.hid hwait
          have HF := Lib.hid (hfine (by omega))
          have HNOW := Lib.hid hnow
          have HKI : Hid (k < (M.closed k).nl) := hki
          obtain ⟨mn, hmn⟩ : ∃ z, z = M.now := ⟨_, rfl⟩
          rw [← hmn]
          have HMN := Lib.hid hmn
          have heq : ((mn : Int) == mn) = true := by simp
          clear hwait hfine hnow hki hcl hmn hH hG hD hL HS
          go_wp2_with fail
          refine HCL.out.mono ?_
          rintro e w1 ⟨rfl, hH1, hk1⟩
          have hcall := hH1.waitE HF.out k 100 HKI.out (by omega) HW.out
          have HCALL := Lib.hid hcall
          clear hH1 hk1 hcall
          go_wp2_with fail
          refine HCALL.out.mono ?_
          rintro e w2 ⟨rfl, hH2, hk2⟩
          have hnw := hH2.now
          rw [HNOW.out, ← HMN.out] at hnw
          have HNW := Lib.hid hnw
          have HH2 := Lib.hid hH2
          clear hnw hH2 hk2
          go_wp2_with (first | (go_at_call 13; refine (num_any _ _).mono ?_; rintro r w' ⟨rfl, rfl⟩) | (go_at_call 16; refine HNW.out.mono ?_; rintro r w' ⟨rfl, rfl⟩))
          go_ret
          exact ⟨rfl, HH2.out.below⟩
end Go.Proofs.Ytadalodjnbnjkaa
