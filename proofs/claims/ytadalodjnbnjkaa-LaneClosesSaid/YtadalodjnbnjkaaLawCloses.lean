/- LaneCloses: for every input the call returns true; no condition. -/
import Derived.Test.YtadalodjnbnjkaaRows
import Derived.Test.YtadalodjnbnjkaaCloses
import Derived.WalkKit
import Derived.ProofKit
import Derived.OpenShut
import Derived.ShutString
import Derived.ChangeOld
import Derived.Below
namespace Go.Proofs.Ytadalodjnbnjkaa.laneCloses
open Go.Proofs.Ytadalodjnbnjkaa
open Go.ChangeShapes Go.WideShapes Go.ChangeAt Go.RowKit
open Go.ChangeMaps (open_string shut_string)
set_option linter.unusedVariables false

theorem own : ownKnob Try.prog.godebug = none := by kernel_rfl
theorem laidOut : laidOutB Try.prog = true := by kernel_rfl

/-- A slice of integers that came in: nil, or a row of cells. -/
def IsRow (k : IntKind) (w : World) (a : Option Addr) (len cap : Nat) (zs : List Int) : Prop :=
  (a = none ∧ len = 0 ∧ cap = 0 ∧ zs = []) ∨
  ∃ x, a = some x ∧ len ≤ cap ∧ cap ≤ maxLen ∧ zs.length = cap ∧ (∀ i, i < zs.length → w.cell? (x.add i) = some (.int k (zs.getD i 0))) ∧ ∀ n ∈ zs, (Lit.int k n).wf = true

set_option maxRecDepth 100000 in
set_option maxHeartbeats 3200000 in
theorem walk (a0 : Int) (a1 : Option Addr) (len1 cap1 : Nat) (z1 : List Int) (a2 : Option Addr) (len2 cap2 : Nat) (z2 : List Int) (w : World) (w0 : (Lit.int .i64 a0).wf = true) (w1 : IsRow .u8 w a1 len1 cap1 z1) (w2 : IsRow .u8 w a2 len2 cap2 z2) :
    Calls Try.prog 8 #[.int .i64 a0, .slice a1 len1 cap1, .slice a2 len2 cap2] w fun e w' => e = .returned (.bool true) ∧ Below w.heap.size w w' := by
  obtain ⟨n1, l1, hn1, hc1, r1, s1⟩ := short_row w1
  obtain ⟨n2, l2, hn2, hc2, r2, s2⟩ := short_row w2
  have hn := Int.emod_nonneg a0 (show (50 : Int) ≠ 0 by omega)
  have hlt := Int.emod_lt_of_pos a0 (show (0 : Int) < 50 by omega)
  obtain ⟨e, he⟩ := Int.eq_ofNat_of_zero_le hn
  have hb : ∀ W, Calls Try.prog 17 #[.int .i64 a0, .int .i64 50] W fun r W' => r = .returned (.int .i64 (e : Nat)) ∧ W = W' := fun W => by
    have := below_any a0 50 W (by omega) (by omega)
    rw [he] at this
    exact this
  have he2 : e < 50 := by omega
  have HB := Lib.hid hb
  have S1 := Lib.hid s1
  have S2 := Lib.hid s2
  have R1 := Lib.hid r1
  have R2 := Lib.hid r2
  clear hn hlt he hb w0 w1 w2 s1 s2 r1 r2
  go_enter Try.func8, Try.ntmps8
  go_wp2_with fail
  refine (HB.out _).mono ?_
  rintro r w' ⟨rfl, rfl⟩
  go_wp2_with fail
  refine (S1.out _).mono ?_
  rintro r w' ⟨rfl, rfl⟩
  go_wp2_with fail
  refine (S2.out _).mono ?_
  rintro r w' ⟨rfl, rfl⟩
  go_wp2_with fail
  have hF : FateIn (w.alloc (.cells #[.int .i64 3, .int .i64 ((e : Int) + 1), .int .i64 0, .int .i64 0] 63)) w.heap.size [(3, ((e + 1 : Nat) : Int)), (0, 0)] := by
    intro j hj
    have h0 := heap_alloc_new w (.cells #[.int .i64 3, .int .i64 ((e : Int) + 1), .int .i64 0, .int .i64 0] 63)
    rcases j with _ | _ | j
    · exact ⟨cell_of_heap h0 0 rfl, cell_of_heap h0 1 rfl⟩
    · exact ⟨cell_of_heap h0 2 rfl, cell_of_heap h0 3 rfl⟩
    · exact absurd hj (by simp)
  have hnew := New_ok (w.alloc (.cells #[.int .i64 3, .int .i64 ((e : Int) + 1), .int .i64 0, .int .i64 0] 63)) 2 w.heap.size 2 2 [(3, ((e + 1 : Nat) : Int)), (0, 0)] (by omega) (by omega) rfl (by omega)
    (by intro f hf; simp at hf; rcases hf with rfl | rfl <;> unfold mayF <;> simp <;> omega) hF
  refine hnew.mono ?_
  rintro r wa ⟨own, A, rfl, hN, hbl, ho⟩
  have hH : Holds w A (net0 2 [(3, ((e + 1 : Nat) : Int)), (0, 0)]) [] wa := ⟨own, hN, ((Mv.refl _ _).alloc _).trans (Mv.of_below hbl), fun b hb => ho b (by simp; omega), fun b hb => by simp at hb⟩
  have HH := Lib.hid hH
  clear hF hnew hN hbl ho hH
  go_wp2_with (first
    | (go_at_call 13; refine (num_any _ _).mono ?_; rintro r w' ⟨rfl, rfl⟩))
  obtain ⟨N1, N2, N3, N4, N5, N6, N7, N8, C⟩ := closes_plain (e + 1) l1 l2 (by omega) (by omega) (by rw [R1.out.1]; exact hn1)
  have HC := Lib.hid C
  clear C
  refine ((HH.out).lent (HH.out.row R1.out) (by omega)).mono ?_
  rintro r wb ⟨g1, rfl, hr1, hHb, hkb⟩
  have HHb := Lib.hid hHb
  have HR1 := Lib.hid hr1
  have bb1 : (n1 : Int) ≤ (n1 : Int) + 200 := by omega
  have bb2 : (n2 : Int) ≤ (n2 : Int) + 200 := by omega
  clear hHb hr1 hkb
  go_wp2_with fail
  refine (HHb.out.send HC.out.f0 0 (by show 0 < 2; omega) rfl ⟨g1, 0, none⟩ n1 (n1 + 200) l1 (by omega) (by omega) HR1.out (.inl (by simp))).mono ?_
  rintro r wc ⟨rfl, hHc, hkc⟩
  rw [HC.out.n1] at hHc
  have HHc := Lib.hid hHc
  clear hHc hkc
  go_wp2_with fail
  refine (HHc.out.lent (HHc.out.row R2.out) (by omega)).mono ?_
  rintro r wd ⟨g2, rfl, hr2, hHd, hkd⟩
  have HHd := Lib.hid hHd
  have HR2 := Lib.hid hr2
  clear hHd hr2 hkd
  go_wp2_with fail
  refine (HHd.out.send HC.out.f1 0 (by rw [HC.out.k1]; omega) HC.out.o1 ⟨g2, 0, none⟩ n2 (n2 + 200) l2 (by omega) (by omega) HR2.out (.inl (by simp))).mono ?_
  rintro r we ⟨rfl, hHe, hke⟩
  rw [HC.out.n2] at hHe
  have HHe := Lib.hid (hHe.sub (K' := []) (by simp))
  clear hHe hke
  go_wp2_with fail
  refine (HHe.out.close 0 (by rw [HC.out.k2]; omega) HC.out.o2).mono ?_
  rintro r wf ⟨rfl, hHf, hkf⟩
  rw [HC.out.n3] at hHf
  have HHf := Lib.hid hHf
  clear hHf hkf
  go_wp2_with (first | (go_at_call 13; refine (num_any _ _).mono ?_; rintro r w' ⟨rfl, rfl⟩) | (go_at_call 18; refine (HHf.out.sendClosed 0 (by rw [HC.out.k3]; omega) HC.out.o3 _).mono ?_; rintro r w' ⟨rfl, rfl⟩) | (go_at_call 25; refine (HHf.out.closeClosed 0 (by rw [HC.out.k3]; omega) HC.out.o3).mono ?_; rintro r w' ⟨rfl, rfl⟩))
  refine (HHf.out.waitM HC.out.f3 0 0 (by rw [HC.out.k3]; omega) (by omega) HC.out.n4).mono ?_
  rintro r wg ⟨gx, cx, rfl, hrx, hHg, hkg⟩
  have HHg := Lib.hid hHg
  have HRX := Lib.hid hrx
  clear hHg hrx hkg
  go_wp2_with fail
  refine (HHg.out.waitE HC.out.f4 0 (e + 1 - 1) (by rw [HC.out.k4]; omega) (by omega) HC.out.n5).mono ?_
  rintro r wh ⟨rfl, hHh, hkh⟩
  have HHh := Lib.hid hHh
  have HRX2 := Lib.hid (HRX.out.kept hkh (by simp))
  clear hHh hkh
  go_wp2_with fail
  refine (HHh.out.waitM HC.out.f5 0 1 (by rw [HC.out.k5]; omega) (by omega) HC.out.n6).mono ?_
  rintro r wi ⟨gy, cy, rfl, hry, hHi, hki⟩
  have HHi := Lib.hid hHi
  have HRY := Lib.hid hry
  have HRX3 := Lib.hid (HRX2.out.kept hki (by simp))
  clear hHi hry hki
  go_wp2_with fail
  refine (HHi.out.same HRX3.out (HHi.out.row R2.out) (by have := R2.out.1; omega)).mono ?_
  rintro r wj ⟨rfl, hHj, hhj⟩
  have e1 := sameB_self l2
  rw [e1]
  have HHj := Lib.hid hHj
  have HRY2 := Lib.hid (HRY.out.of_heap hhj)
  clear hHj hhj e1
  go_wp2_with fail
  refine (HHj.out.same HRY2.out (HHj.out.row R1.out) (by have := R1.out.1; omega)).mono ?_
  rintro r wk ⟨rfl, hHk, hhk⟩
  have e1 := sameB_self l1
  rw [e1]
  have HHk := Lib.hid (hHk.sub (K' := []) (by simp))
  clear hHk hhk e1
  have hnow : ∀ W, Holds w A N6 [] W → Calls Try.prog 16 #[.pointer (some ⟨A.net, 0, none⟩)] W fun r w' => r = .returned (.int .i64 ((e : Int) + 1)) ∧ W = w' := fun W hW => by
    have := hW.now
    rw [HC.out.t6] at this
    exact this
  have HNOW := Lib.hid hnow
  clear hnow
  go_wp2_with (first | (go_at_call 13; refine (num_any _ _).mono ?_; rintro r w' ⟨rfl, rfl⟩) | (go_at_call 16; refine (HNOW.out _ HHk.out).mono ?_; rintro r w' ⟨rfl, rfl⟩))
  refine (HHk.out.waitE HC.out.f6 0 1000 (by rw [HC.out.k6]; omega) (by omega) HC.out.e6).mono ?_
  rintro r wl ⟨rfl, hHl, hkl⟩
  have HHl := Lib.hid hHl
  clear hHl hkl
  go_wp2_with fail
  refine (HHl.out.lent (HHl.out.row R1.out) (by omega)).mono ?_
  rintro r wm ⟨g3, rfl, hr3, hHm, hkm⟩
  have HHm := Lib.hid hHm
  have HR3 := Lib.hid hr3
  clear hHm hr3 hkm
  go_wp2_with fail
  refine (HHm.out.send HC.out.g6 1 (by rw [HC.out.k6]; omega) HC.out.o6 ⟨g3, 0, none⟩ n1 (n1 + 200) l1 (by omega) (by omega) HR3.out (.inl (by simp))).mono ?_
  rintro r wn ⟨rfl, hHn, hkn⟩
  rw [HC.out.n7] at hHn
  have HHn := Lib.hid (hHn.sub (K' := []) (by simp))
  clear hHn hkn
  go_wp2_with fail
  refine (HHn.out.waitM HC.out.f7 1 0 (by rw [HC.out.k7]; omega) (by omega) HC.out.n8).mono ?_
  rintro r wo ⟨gz, cz, rfl, hrz, hHo, hko⟩
  have HHo := Lib.hid hHo
  have HRZ := Lib.hid hrz
  clear hHo hrz hko
  go_wp2_with fail
  refine (HHo.out.same HRZ.out (HHo.out.row R1.out) (by have := R1.out.1; omega)).mono ?_
  rintro r wp ⟨rfl, hHp, hhp⟩
  have e1 := sameB_self l1
  rw [e1]
  have HHp := Lib.hid (hHp.sub (K' := []) (by simp))
  clear hHp hhp e1
  go_wp2_with fail
  refine (HHp.out.waitE HC.out.f8 0 5 (by rw [HC.out.k8]; omega) (by omega) HC.out.e8).mono ?_
  rintro r wq ⟨rfl, hHq, hkq⟩
  have HHq := Lib.hid hHq
  clear hHq hkq
  have hnow : ∀ W, Holds w A N8 [] W → Calls Try.prog 16 #[.pointer (some ⟨A.net, 0, none⟩)] W fun r w' => r = .returned (.int .i64 ((e : Int) + 1)) ∧ W = w' := fun W hW => by
    have := hW.now
    rw [HC.out.t8] at this
    exact this
  have HNOW2 := Lib.hid hnow
  clear hnow
  go_wp2_with (first | (go_at_call 13; refine (num_any _ _).mono ?_; rintro r w' ⟨rfl, rfl⟩) | (go_at_call 16; refine (HNOW2.out _ HHq.out).mono ?_; rintro r w' ⟨rfl, rfl⟩))
  go_ret
  exact ⟨rfl, HHq.out.below⟩

set_option maxRecDepth 100000 in
theorem lifted (os : Os) (started : os.Started) (H : Type) (enc : TypeId × Value → H) :
    ReturnsInHanded {} Try.checked os 8 .any (Rows.laneClosesSpec.pre6 enc Try.prog Try.f8 Rows.laneClosesRow.domain false) (Rows.laneClosesSpec.post enc Try.prog Try.f8 false true false false) := by
  refine returnsInHanded_of_change (C := Try.checked) own started (by kernel_rfl) Try.func8
    (ChangeSpec.witness6 (enc := enc) (C := Try.checked) false ⟨#[], #[.int .i64 0, .slice none 0 0, .slice none 0 0], []⟩ 8 (by kernel_rfl) (by kernel_rfl) (by kernel_rfl) (by kernel_rfl)) ?_
  intro W base args ds gs before hval0 hW hcnd _
  have hval : ∀ (j : Nat) t v, Try.f8.params[j]? = some t → args[j]? = some v → Value.okWide Try.prog W .any base t v := hval0
  have hW' := hW
  obtain ⟨p, q, hA0, hV, rfl, hfz, hnd⟩ := hW
  have hA : DataW.TrodAll enc Try.prog W 0 (fun _ => true) true Try.f8.params.toList args.toList ds p := hA0
  rw [Try.params8] at hA hval
  obtain ⟨v0, vs0, d0, ds0, p0, q0, hargs, rfl, rfl, h0, r0⟩ := trodAll_cons hA
  obtain ⟨v1, vs1, d1, ds1, p1, q1, rfl, rfl, rfl, h1, r1⟩ := trodAll_cons r0
  obtain ⟨v2, vs2, d2, ds2, p2, q2, rfl, rfl, rfl, h2, r2⟩ := trodAll_cons r1
  obtain ⟨rfl, rfl, rfl⟩ := trodAll_nil r2
  obtain rfl : args = #[v0, v1, v2] := by cases args; simp_all
  obtain ⟨rfl, rfl⟩ := trodVars_none hV
  obtain ⟨a0, rfl, rfl, rfl, w0⟩ := open_int Try.underlying3 (hval 0 3 v0 rfl rfl) h0
  obtain ⟨a1, len1, cap1, rfl⟩ := okWide_slice Try.underlying47 (hval 1 47 v1 rfl rfl)
  have k1 := h1
  have lt1 : ∀ x ∈ p1, x.block < W.heap.size := by obtain ⟨m, hm⟩ := k1; exact DataW.trod_lt m _ _ _ hm
  obtain ⟨z1, w1⟩ : ∃ zs, IsRow .u8 W a1 len1 cap1 zs := by
    obtain ⟨fuel, hf⟩ := h1
    rcases open_ints Try.underlying47 Try.underlying5 (by kernel_rfl) hf with ⟨hcs, _⟩ | ⟨x, l, c, zs, hcs, _, hl, hm, hz, _, hcell, hwz⟩
    · simp [Value.cells] at hcs
      obtain ⟨rfl, rfl, rfl⟩ := hcs
      exact ⟨[], .inl ⟨rfl, rfl, rfl, rfl⟩⟩
    · simp [Value.cells] at hcs
      obtain ⟨rfl, rfl, rfl⟩ := hcs
      exact ⟨zs, .inr ⟨_, rfl, hl, hm, by simpa using hz, hcell, hwz⟩⟩
  obtain ⟨a2, len2, cap2, rfl⟩ := okWide_slice Try.underlying47 (hval 2 47 v2 rfl rfl)
  have k2 := h2
  have lt2 : ∀ x ∈ p2, x.block < W.heap.size := by obtain ⟨m, hm⟩ := k2; exact DataW.trod_lt m _ _ _ hm
  obtain ⟨z2, w2⟩ : ∃ zs, IsRow .u8 W a2 len2 cap2 zs := by
    obtain ⟨fuel, hf⟩ := h2
    rcases open_ints Try.underlying47 Try.underlying5 (by kernel_rfl) hf with ⟨hcs, _⟩ | ⟨x, l, c, zs, hcs, _, hl, hm, hz, _, hcell, hwz⟩
    · simp [Value.cells] at hcs
      obtain ⟨rfl, rfl, rfl⟩ := hcs
      exact ⟨[], .inl ⟨rfl, rfl, rfl, rfl⟩⟩
    · simp [Value.cells] at hcs
      obtain ⟨rfl, rfl, rfl⟩ := hcs
      exact ⟨zs, .inr ⟨_, rfl, hl, hm, by simpa using hz, hcell, hwz⟩⟩
  clear hA0 hval0
  refine (walk a0 a1 len1 cap1 z1 a2 len2 cap2 z2 W w0 w1 w2).mono fun e W' ⟨he, bel⟩ => ?_
  subst he
  exact ⟨_, rfl, _, _, _, [], _, [], hW', trodAll_mk1 (shut_bool Try.underlying4 _), (trodAll_cons_mk (shut_int Try.underlying3 w0) (trodAll_cons_mk (Below.trod laidOut (by kernel_rfl) (of_decide_eq_true (by kernel_rfl)) k1 bel lt1) (trodAll_cons_mk (Below.trod laidOut (by kernel_rfl) (of_decide_eq_true (by kernel_rfl)) k2 bel lt2) trodAll_mk0))), rfl, bel.frame _, fun h => by cases h⟩

theorem over : Rows.laneClosesRow.holds Try.pinned (OpenSpec.ofChange Rows.laneClosesSpec) :=
  OpenClaim.holds_of_wide 8 Try.f8 rfl rfl rfl rfl rfl rfl rfl ⟨rfl, rfl, rfl, rfl, rfl⟩ rfl rfl rfl rfl rfl (by kernel_rfl) Try.func8 (by kernel_rfl)
    (of_decide_eq_true (by kernel_rfl)) (by unfold Func.isWrapper; first | (rw [if_pos (by decide +kernel)]; kernel_rfl) | (rw [if_neg (by decide +kernel)]; exact ⟨rfl, rfl⟩))
    (fun os started H enc _ => lifted os started H enc)

theorem proved : Rows.LaneClosesSaid := over
#print axioms proved
end Go.Proofs.Ytadalodjnbnjkaa.laneCloses
