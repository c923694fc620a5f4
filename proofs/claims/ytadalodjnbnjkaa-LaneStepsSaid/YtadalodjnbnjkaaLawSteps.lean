/- LaneSteps: for every input the call returns true; no condition. -/
import Derived.Test.YtadalodjnbnjkaaRows
import Derived.Test.YtadalodjnbnjkaaSteps
import Derived.WalkKit
import Derived.ProofKit
import Derived.OpenShut
import Derived.ShutString
import Derived.ChangeOld
import Derived.Below
namespace Go.Proofs.Ytadalodjnbnjkaa.laneSteps
open Go.Proofs.Ytadalodjnbnjkaa
open Go.ChangeShapes Go.WideShapes Go.ChangeAt Go.RowKit
open Go.ChangeMaps (open_string shut_string)
set_option linter.unusedVariables false

theorem own : ownKnob Try.prog.godebug = none := by kernel_rfl
theorem laidOut : laidOutB Try.prog = true := by kernel_rfl

/-- A slice of integers that came in: nil, or a row of cells. -/
def IsRow (k : IntKind) (w : World) (a : Option Addr) (len cap : Nat) (zs : List Int) : Prop :=
  (a = none ∧ len = 0 ∧ cap = 0 ∧ zs = []) ∨
  ∃ x, a = some x ∧ len ≤ cap ∧ cap ≤ maxLen ∧ zs.length = cap ∧ (∀ i, i < zs.length → w.cell? (x.add i) = some (.int k (zs.getD i 0))) ∧ ∀ n ∈ zs, (Lit.int k n).wf = true

set_option maxRecDepth 100000 in
set_option maxHeartbeats 3200000 in
theorem walk (a0 : Int) (a1 : Int) (a2 : Int) (a3 : Option Addr) (len3 cap3 : Nat) (z3 : List Int) (w : World) (w0 : (Lit.int .i64 a0).wf = true) (w1 : (Lit.int .i64 a1).wf = true) (w2 : (Lit.int .i64 a2).wf = true) (w3 : IsRow .u8 w a3 len3 cap3 z3) :
    Calls Try.prog 7 #[.int .i64 a0, .int .i64 a1, .int .i64 a2, .slice a3 len3 cap3] w fun e w' => e = .returned (.bool true) ∧ Below w.heap.size w w' := by
  obtain ⟨n, l, hn, hc, r1, s1⟩ := short_row w3
  obtain ⟨a, ha, b1⟩ := below_nat a0 60 (by omega) (by omega)
  obtain ⟨b, hb, b2⟩ := below_nat a1 60 (by omega) (by omega)
  obtain ⟨d, hd, b3⟩ := below_nat a2 100 (by omega) (by omega)
  have B1 := Lib.hid b1
  have B2 := Lib.hid b2
  have B3 := Lib.hid b3
  have S1 := Lib.hid s1
  have R1 := Lib.hid r1
  clear b1 b2 b3 s1 r1 w0 w1 w2 w3
  go_enter Try.func7, Try.ntmps7
  go_wp2_with fail
  refine (B1.out _).mono ?_
  rintro r w' ⟨rfl, rfl⟩
  go_wp2_with fail
  refine (B2.out _).mono ?_
  rintro r w' ⟨rfl, rfl⟩
  go_wp2_with fail
  refine (B3.out _).mono ?_
  rintro r w' ⟨rfl, rfl⟩
  go_wp2_with fail
  refine (S1.out _).mono ?_
  rintro r w' ⟨rfl, rfl⟩
  go_wp2_with fail
  have hin := sentsIn_one w d a3 n cap3 55 l R1.out R1.out.1
  have htame : ∀ s ∈ [(⟨0, 0, l, (3, (d : Int))⟩ : Snt)], TameS s := by
    intro s hs; simp at hs; subst hs
    refine ⟨by simp, by simp, by have := R1.out.1; show l.length ≤ 4096; omega, ?_⟩
    unfold mayF; simp; omega
  have HT := Lib.hid htame
  have hmv : Mv (fun _ => False) w (w.alloc (.cells #[.int .i64 0, .int .i64 0, .slice a3 n cap3, .int .i64 3, .int .i64 d] 55)) := (Mv.refl _ _).alloc _
  have HMV := Lib.hid hmv
  have HIN := Lib.hid hin
  clear hin htame hmv
  refine (sends_any _ _ w.heap.size 1 1 _ true (.inr rfl) rfl (by omega) HT.out HIN.out).mono ?_
  rintro r wa ⟨A, rfl, hHa⟩
  have HHa := Lib.hid hHa
  clear hHa
  go_wp2_with fail
  refine (sends_any _ _ w.heap.size 1 1 _ true (.inr rfl) rfl (by omega) HT.out (HIN.out.still HHa.out.below)).mono ?_
  rintro r wb ⟨A₂, rfl, hHb⟩
  have hP := Pair.start (HHa.out.ahead HMV.out) hHb
  have hC := comes_start d l
  obtain ⟨N0, hN0⟩ : ∃ N0, sendsN true true [(⟨0, 0, l, (3, (d : Int))⟩ : Snt)] = N0 := ⟨_, rfl⟩
  rw [hN0] at hP hC
  have HP := Lib.hid hP
  have HC := Lib.hid hC
  have hll : l.length ≤ 4096 := by have := R1.out.1; omega
  have HF := Lib.hid (hC.fine (by omega) (by omega) hll)
  have HNL := Lib.hid hC.nl
  have HLL := Lib.hid hll
  clear hP hC hN0 hHb hll HIN HT HMV
  go_wp2_with fail
  rcases (show d ≤ a ∨ (a < d ∧ d ≤ a + b) ∨ a + b < d by omega) with h1 | ⟨h1, h2⟩ | h1
  · obtain ⟨N1, hx, hx2⟩ := HC.out.some (a + b) (by omega)
    obtain ⟨N2, hy, hy2⟩ := HC.out.some a (by omega)
    have HY := Lib.hid hy
    have HX2 := Lib.hid hx2
    have HY2 := Lib.hid hy2
    clear hy hx2 hy2
    have hcall := HP.out.waitM HF.out 0 (a + b) (by rw [HNL.out]; omega) (by omega) hx
    have hcast : ((a + b : Nat) : Int) = (a : Int) + (b : Int) := by omega
    rw [hcast] at hcall
    refine hcall.mono ?_
    clear hcall hcast
    rintro r wc ⟨gx, cx, rfl, hrx, hPc, hkc⟩
    have HPC := Lib.hid hPc
    have HRX := Lib.hid hrx
    clear hPc hrx hkc hx
    go_wp2_with fail
    have hcall := HPC.out.swap.waitM HF.out 0 (a) (by rw [HNL.out]; omega) (by omega) HY.out
    have hcast : ((a : Nat) : Int) = (a : Int) := by omega
    rw [hcast] at hcall
    refine hcall.mono ?_
    clear hcall hcast
    rintro r wd ⟨gy, cy, rfl, hry, hPd, hkd⟩
    have HPT := Lib.hid hPd.swap
    have HRY := Lib.hid hry
    have HRX2 := Lib.hid (HRX.out.kept hkd (by simp))
    clear hPd hry hkd
    go_wp2_with (first | (go_at_call 13; refine (num_any _ _).mono ?_; rintro r w' ⟨rfl, rfl⟩))
    have hnow1 : ∀ W, Pair w A N1 A₂ N2 [gy, gx] W → Calls Try.prog 16 #[.pointer (some ⟨A.net, 0, none⟩)] W fun r w' => r = .returned (.int .i64 (d)) ∧ W = w' := fun W hW => by
      have := hW.now
      rw [HX2.out] at this
      exact this
    have hnow2 : ∀ W, Pair w A N1 A₂ N2 [gy, gx] W → Calls Try.prog 16 #[.pointer (some ⟨A₂.net, 0, none⟩)] W fun r w' => r = .returned (.int .i64 (d)) ∧ W = w' := fun W hW => by
      have := hW.swap.now
      rw [HY2.out] at this
      exact this
    have HN1 := Lib.hid hnow1
    have HN2 := Lib.hid hnow2
    clear hnow1 hnow2
    refine (HPT.out.same HRX2.out HRY.out (by have := HLL.out; omega)).mono ?_
    rintro r wu ⟨rfl, hPu, hhu⟩
    have e1 := sameB_self l
    rw [e1]
    have HPU := Lib.hid hPu
    have HHU := Lib.hid hhu
    clear hPu hhu e1
    go_wp2_with (first | (go_at_call 13; refine (num_any _ _).mono ?_; rintro r w' ⟨rfl, rfl⟩) | (go_at_call 16; refine (HN1.out _ HPU.out).mono ?_; rintro r w' ⟨rfl, rfl⟩) | (go_at_call 16; refine (HN2.out _ HPU.out).mono ?_; rintro r w' ⟨rfl, rfl⟩))
    refine (HPU.out.same (HRX2.out.of_heap HHU.out) (R1.out.still HPU.out.below) (by have := HLL.out; omega)).mono ?_
    rintro r wv ⟨rfl, hPv, hhv⟩
    have e1 := sameB_self l
    rw [e1]
    clear e1
    have HPV := Lib.hid hPv
    clear hPv hhv
    go_wp2_with (first | (go_at_call 13; refine (num_any _ _).mono ?_; rintro r w' ⟨rfl, rfl⟩) | (go_at_call 16; refine (HN1.out _ HPV.out).mono ?_; rintro r w' ⟨rfl, rfl⟩))
    go_ret
    exact ⟨rfl, HPV.out.below⟩
  · obtain ⟨N1, hx, hx2⟩ := HC.out.some (a + b) (by omega)
    obtain ⟨N2, hy, hy2⟩ := HC.out.none a (by omega)
    obtain ⟨N3, hz, hz2⟩ := hy2.some b (by omega)
    have HY := Lib.hid hy
    have HX2 := Lib.hid hx2
    have HYN := Lib.hid hy2.now
    have HYL := Lib.hid hy2.nl
    have HYF := Lib.hid (hy2.fine (by omega) (by omega) HLL.out)
    have HZ := Lib.hid hz
    have HZ2 := Lib.hid hz2
    clear hy hx2 hy2 hz hz2
    have hcall := HP.out.waitM HF.out 0 (a + b) (by rw [HNL.out]; omega) (by omega) hx
    have hcast : ((a + b : Nat) : Int) = (a : Int) + (b : Int) := by omega
    rw [hcast] at hcall
    refine hcall.mono ?_
    clear hcall hcast
    rintro r wc ⟨gx, cx, rfl, hrx, hPc, hkc⟩
    have HPC := Lib.hid hPc
    have HRX := Lib.hid hrx
    clear hPc hrx hkc hx
    go_wp2_with fail
    have hcall := HPC.out.swap.waitE HF.out 0 (a) (by rw [HNL.out]; omega) (by omega) HY.out
    have hcast : ((a : Nat) : Int) = (a : Int) := by omega
    rw [hcast] at hcall
    refine hcall.mono ?_
    clear hcall hcast
    rintro r wd ⟨rfl, hPd, hkd⟩
    have HPD := Lib.hid hPd
    have HRX2 := Lib.hid (HRX.out.kept hkd (by simp))
    clear hPd hkd
    have hnow : ∀ W, Pair w A₂ N2 A N1 [gx] W → Calls Try.prog 16 #[.pointer (some ⟨A₂.net, 0, none⟩)] W fun r w' => r = .returned (.int .i64 a) ∧ W = w' := fun W hW => by
      have := hW.now
      rw [HYN.out, Nat.zero_add] at this
      exact this
    have HNOW := Lib.hid hnow
    clear hnow
    go_wp2_with (first | (go_at_call 13; refine (num_any _ _).mono ?_; rintro r w' ⟨rfl, rfl⟩) | (go_at_call 16; refine (HNOW.out _ HPD.out).mono ?_; rintro r w' ⟨rfl, rfl⟩))
    have hcall := HPD.out.waitM HYF.out 0 (b) (by rw [HYL.out]; omega) (by omega) HZ.out
    have hcast : ((b : Nat) : Int) = (b : Int) := by omega
    rw [hcast] at hcall
    refine hcall.mono ?_
    clear hcall hcast
    rintro r we ⟨gy, cy, rfl, hry, hPe, hke⟩
    have HPT := Lib.hid hPe.swap
    have HRY := Lib.hid hry
    have HRX3 := Lib.hid (HRX2.out.kept hke (by simp))
    clear hPe hry hke
    go_wp2_with fail
    have hnow1 : ∀ W, Pair w A N1 A₂ N3 [gy, gx] W → Calls Try.prog 16 #[.pointer (some ⟨A.net, 0, none⟩)] W fun r w' => r = .returned (.int .i64 (d)) ∧ W = w' := fun W hW => by
      have := hW.now
      rw [HX2.out] at this
      exact this
    have hnow2 : ∀ W, Pair w A N1 A₂ N3 [gy, gx] W → Calls Try.prog 16 #[.pointer (some ⟨A₂.net, 0, none⟩)] W fun r w' => r = .returned (.int .i64 (d)) ∧ W = w' := fun W hW => by
      have := hW.swap.now
      rw [HZ2.out] at this
      exact this
    have HN1 := Lib.hid hnow1
    have HN2 := Lib.hid hnow2
    clear hnow1 hnow2
    refine (HPT.out.same HRX3.out HRY.out (by have := HLL.out; omega)).mono ?_
    rintro r wu ⟨rfl, hPu, hhu⟩
    have e1 := sameB_self l
    rw [e1]
    have HPU := Lib.hid hPu
    have HHU := Lib.hid hhu
    clear hPu hhu e1
    go_wp2_with (first | (go_at_call 13; refine (num_any _ _).mono ?_; rintro r w' ⟨rfl, rfl⟩) | (go_at_call 16; refine (HN1.out _ HPU.out).mono ?_; rintro r w' ⟨rfl, rfl⟩) | (go_at_call 16; refine (HN2.out _ HPU.out).mono ?_; rintro r w' ⟨rfl, rfl⟩))
    refine (HPU.out.same (HRX3.out.of_heap HHU.out) (R1.out.still HPU.out.below) (by have := HLL.out; omega)).mono ?_
    rintro r wv ⟨rfl, hPv, hhv⟩
    have e1 := sameB_self l
    rw [e1]
    clear e1
    have HPV := Lib.hid hPv
    clear hPv hhv
    go_wp2_with (first | (go_at_call 13; refine (num_any _ _).mono ?_; rintro r w' ⟨rfl, rfl⟩) | (go_at_call 16; refine (HN1.out _ HPV.out).mono ?_; rintro r w' ⟨rfl, rfl⟩))
    go_ret
    exact ⟨rfl, HPV.out.below⟩
  · obtain ⟨N1, hx, hx2⟩ := HC.out.none (a + b) (by omega)
    obtain ⟨N2, hy, hy2⟩ := HC.out.none a (by omega)
    obtain ⟨N3, hz, hz2⟩ := hy2.none b (by omega)
    have HY := Lib.hid hy
    have hx3 : (N1.now : Int) = (a : Int) + (b : Int) := by rw [hx2.now]; omega
    have hz3 : (N3.now : Int) = (a : Int) + (b : Int) := by rw [hz2.now]; omega
    have HX2 := Lib.hid hx3
    have HYN := Lib.hid hy2.now
    have HYL := Lib.hid hy2.nl
    have HYF := Lib.hid (hy2.fine (by omega) (by omega) HLL.out)
    have HZ := Lib.hid hz
    have HZ2 := Lib.hid hz3
    clear hy hx2 hy2 hz hz2 hx3 hz3
    have hcall := HP.out.waitE HF.out 0 (a + b) (by rw [HNL.out]; omega) (by omega) hx
    have hcast : ((a + b : Nat) : Int) = (a : Int) + (b : Int) := by omega
    rw [hcast] at hcall
    refine hcall.mono ?_
    clear hcall hcast
    rintro r wc ⟨rfl, hPc, hkc⟩
    have HPC := Lib.hid hPc
    clear hPc hkc hx
    go_wp2_with fail
    have hcall := HPC.out.swap.waitE HF.out 0 (a) (by rw [HNL.out]; omega) (by omega) HY.out
    have hcast : ((a : Nat) : Int) = (a : Int) := by omega
    rw [hcast] at hcall
    refine hcall.mono ?_
    clear hcall hcast
    rintro r wd ⟨rfl, hPd, hkd⟩
    have HPD := Lib.hid hPd
    clear hPd hkd
    have hnow : ∀ W, Pair w A₂ N2 A N1 [] W → Calls Try.prog 16 #[.pointer (some ⟨A₂.net, 0, none⟩)] W fun r w' => r = .returned (.int .i64 a) ∧ W = w' := fun W hW => by
      have := hW.now
      rw [HYN.out, Nat.zero_add] at this
      exact this
    have HNOW := Lib.hid hnow
    clear hnow
    go_wp2_with (first | (go_at_call 13; refine (num_any _ _).mono ?_; rintro r w' ⟨rfl, rfl⟩) | (go_at_call 16; refine (HNOW.out _ HPD.out).mono ?_; rintro r w' ⟨rfl, rfl⟩))
    have hcall := HPD.out.waitE HYF.out 0 (b) (by rw [HYL.out]; omega) (by omega) HZ.out
    have hcast : ((b : Nat) : Int) = (b : Int) := by omega
    rw [hcast] at hcall
    refine hcall.mono ?_
    clear hcall hcast
    rintro r we ⟨rfl, hPe, hke⟩
    have HPT := Lib.hid hPe.swap
    clear hPe hke
    go_wp2_with fail
    have hnow1 : ∀ W, Pair w A N1 A₂ N3 [] W → Calls Try.prog 16 #[.pointer (some ⟨A.net, 0, none⟩)] W fun r w' => r = .returned (.int .i64 ((a : Int) + (b : Int))) ∧ W = w' := fun W hW => by
      have := hW.now
      rw [HX2.out] at this
      exact this
    have hnow2 : ∀ W, Pair w A N1 A₂ N3 [] W → Calls Try.prog 16 #[.pointer (some ⟨A₂.net, 0, none⟩)] W fun r w' => r = .returned (.int .i64 ((a : Int) + (b : Int))) ∧ W = w' := fun W hW => by
      have := hW.swap.now
      rw [HZ2.out] at this
      exact this
    have HN1 := Lib.hid hnow1
    have HN2 := Lib.hid hnow2
    clear hnow1 hnow2
    refine (HPT.out.same (RowIn.nil _) (RowIn.nil _) (by have := HLL.out; omega)).mono ?_
    rintro r wu ⟨rfl, hPu, hhu⟩
    have e1 := sameB_self ([] : List Int)
    rw [e1]
    have HPU := Lib.hid hPu
    have HHU := Lib.hid hhu
    clear hPu hhu e1
    go_wp2_with (first | (go_at_call 13; refine (num_any _ _).mono ?_; rintro r w' ⟨rfl, rfl⟩) | (go_at_call 16; refine (HN1.out _ HPU.out).mono ?_; rintro r w' ⟨rfl, rfl⟩) | (go_at_call 16; refine (HN2.out _ HPU.out).mono ?_; rintro r w' ⟨rfl, rfl⟩))
    refine (HPU.out.same ((RowIn.nil _).of_heap HHU.out) (R1.out.still HPU.out.below) (by have := HLL.out; omega)).mono ?_
    rintro r wv ⟨rfl, hPv, hhv⟩
    have HPV := Lib.hid hPv
    clear hPv hhv
    go_wp2_with (first | (go_at_call 13; refine (num_any _ _).mono ?_; rintro r w' ⟨rfl, rfl⟩) | (go_at_call 16; refine (HN1.out _ HPV.out).mono ?_; rintro r w' ⟨rfl, rfl⟩))
    go_ret
    exact ⟨rfl, HPV.out.below⟩

set_option maxRecDepth 100000 in
theorem lifted (os : Os) (started : os.Started) (H : Type) (enc : TypeId × Value → H) :
    ReturnsInHanded {} Try.checked os 7 .any (Rows.laneStepsSpec.pre6 enc Try.prog Try.f7 Rows.laneStepsRow.domain false) (Rows.laneStepsSpec.post enc Try.prog Try.f7 false true false false) := by
  refine returnsInHanded_of_change (C := Try.checked) own started (by kernel_rfl) Try.func7
    (ChangeSpec.witness6 (enc := enc) (C := Try.checked) false ⟨#[], #[.int .i64 0, .int .i64 0, .int .i64 0, .slice none 0 0], []⟩ 8 (by kernel_rfl) (by kernel_rfl) (by kernel_rfl) (by kernel_rfl)) ?_
  intro W base args ds gs before hval0 hW hcnd _
  have hval : ∀ (j : Nat) t v, Try.f7.params[j]? = some t → args[j]? = some v → Value.okWide Try.prog W .any base t v := hval0
  have hW' := hW
  obtain ⟨p, q, hA0, hV, rfl, hfz, hnd⟩ := hW
  have hA : DataW.TrodAll enc Try.prog W 0 (fun _ => true) true Try.f7.params.toList args.toList ds p := hA0
  rw [Try.params7] at hA hval
  obtain ⟨v0, vs0, d0, ds0, p0, q0, hargs, rfl, rfl, h0, r0⟩ := trodAll_cons hA
  obtain ⟨v1, vs1, d1, ds1, p1, q1, rfl, rfl, rfl, h1, r1⟩ := trodAll_cons r0
  obtain ⟨v2, vs2, d2, ds2, p2, q2, rfl, rfl, rfl, h2, r2⟩ := trodAll_cons r1
  obtain ⟨v3, vs3, d3, ds3, p3, q3, rfl, rfl, rfl, h3, r3⟩ := trodAll_cons r2
  obtain ⟨rfl, rfl, rfl⟩ := trodAll_nil r3
  obtain rfl : args = #[v0, v1, v2, v3] := by cases args; simp_all
  obtain ⟨rfl, rfl⟩ := trodVars_none hV
  obtain ⟨a0, rfl, rfl, rfl, w0⟩ := open_int Try.underlying3 (hval 0 3 v0 rfl rfl) h0
  obtain ⟨a1, rfl, rfl, rfl, w1⟩ := open_int Try.underlying3 (hval 1 3 v1 rfl rfl) h1
  obtain ⟨a2, rfl, rfl, rfl, w2⟩ := open_int Try.underlying3 (hval 2 3 v2 rfl rfl) h2
  obtain ⟨a3, len3, cap3, rfl⟩ := okWide_slice Try.underlying47 (hval 3 47 v3 rfl rfl)
  have k3 := h3
  have lt3 : ∀ x ∈ p3, x.block < W.heap.size := by obtain ⟨m, hm⟩ := k3; exact DataW.trod_lt m _ _ _ hm
  obtain ⟨z3, w3⟩ : ∃ zs, IsRow .u8 W a3 len3 cap3 zs := by
    obtain ⟨fuel, hf⟩ := h3
    rcases open_ints Try.underlying47 Try.underlying5 (by kernel_rfl) hf with ⟨hcs, _⟩ | ⟨x, l, c, zs, hcs, _, hl, hm, hz, _, hcell, hwz⟩
    · simp [Value.cells] at hcs
      obtain ⟨rfl, rfl, rfl⟩ := hcs
      exact ⟨[], .inl ⟨rfl, rfl, rfl, rfl⟩⟩
    · simp [Value.cells] at hcs
      obtain ⟨rfl, rfl, rfl⟩ := hcs
      exact ⟨zs, .inr ⟨_, rfl, hl, hm, by simpa using hz, hcell, hwz⟩⟩
  clear hA0 hval0
  refine (walk a0 a1 a2 a3 len3 cap3 z3 W w0 w1 w2 w3).mono fun e W' ⟨he, bel⟩ => ?_
  subst he
  exact ⟨_, rfl, _, _, _, [], _, [], hW', trodAll_mk1 (shut_bool Try.underlying4 _), (trodAll_cons_mk (shut_int Try.underlying3 w0) (trodAll_cons_mk (shut_int Try.underlying3 w1) (trodAll_cons_mk (shut_int Try.underlying3 w2) (trodAll_cons_mk (Below.trod laidOut (by kernel_rfl) (of_decide_eq_true (by kernel_rfl)) k3 bel lt3) trodAll_mk0)))), rfl, bel.frame _, fun h => by cases h⟩

theorem over : Rows.laneStepsRow.holds Try.pinned (OpenSpec.ofChange Rows.laneStepsSpec) :=
  OpenClaim.holds_of_wide 7 Try.f7 rfl rfl rfl rfl rfl rfl rfl ⟨rfl, rfl, rfl, rfl, rfl⟩ rfl rfl rfl rfl rfl (by kernel_rfl) Try.func7 (by kernel_rfl)
    (of_decide_eq_true (by kernel_rfl)) (by unfold Func.isWrapper; first | (rw [if_pos (by decide +kernel)]; kernel_rfl) | (rw [if_neg (by decide +kernel)]; exact ⟨rfl, rfl⟩))
    (fun os started H enc _ => lifted os started H enc)

theorem proved : Rows.LaneStepsSaid := over
#print axioms proved
end Go.Proofs.Ytadalodjnbnjkaa.laneSteps
