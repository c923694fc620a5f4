/- LaneFills: for every input the call returns true; no condition. -/
import Derived.Test.YtadalodjnbnjkaaRows
import Derived.Test.YtadalodjnbnjkaaFills
import Derived.WalkKit
import Derived.ProofKit
import Derived.OpenShut
namespace Go.Proofs.Ytadalodjnbnjkaa.laneFills
open Go.Proofs.Ytadalodjnbnjkaa
open Go.ChangeShapes Go.WideShapes Go.ChangeAt Go.RowKit
set_option linter.unusedVariables false

theorem own : ownKnob Try.prog.godebug = none := by kernel_rfl

theorem FillIs.forget {w wr : World} {A : Ga} {s : Nat} {b0 b1 : List (List Int)} {K : List Nat} (h : FillIs w A s b0 b1 K wr) : FillIs w A s b0 b1 [] wr := by
  obtain ⟨own, N, h1, h2, h3, h4, h5⟩ := h
  exact ⟨own, N, h1, h2, h3, h4, fun b hb => by simp at hb⟩

/-- What is left to come behind k - 1 of the 64. -/
def rest (k : Nat) : List (List Int) := (((List.range 63).map fun (j : Nat) => [((j : Int) + 1)]) ++ [[200]]).drop (k - 1)
theorem rest_one : rest 1 = ((List.range 63).map fun (j : Nat) => [((j : Int) + 1)]) ++ [[200]] := rfl
theorem rest_end : rest 65 = [] := by unfold rest; simp
theorem rest_mid (k : Nat) (h1 : 1 ≤ k) (h2 : k < 64) : rest k = [(k : Int)] :: rest (k + 1) := by
  unfold rest
  have hlen : (((List.range 63).map fun (j : Nat) => [((j : Int) + 1)]) ++ [[(200 : Int)]]).length = 64 := by simp
  rw [List.drop_eq_getElem_cons (by rw [hlen]; omega)]
  have e : k + 1 - 1 = (k - 1) + 1 := by omega
  rw [e]
  congr 1
  rw [List.getElem_append_left (by simp; omega)]
  simp
  omega
theorem rest_last : rest 64 = [200] :: rest 65 := by
  rw [rest_end]
  unfold rest
  rw [List.drop_append]
  simp

theorem u8_of (k : Nat) (h : k < 256) : IntKind.u8.wrap (k : Int) = k := IntWalk.u8_in _ (by omega)

set_option maxRecDepth 100000 in
set_option maxHeartbeats 1600000 in
theorem walk (a0 : Int) (w0 : (Lit.int .i64 a0).wf = true) (w : World) :
    Calls Try.prog 5 #[.int .i64 a0] w fun e w' => e = .returned (.bool true) ∧ Below w.heap.size w w' := by
  have hn := Int.emod_nonneg a0 (show (70 : Int) ≠ 0 by omega)
  have hlt := Int.emod_lt_of_pos a0 (show (0 : Int) < 70 by omega)
  obtain ⟨e, he⟩ := Int.eq_ofNat_of_zero_le hn
  have hb : ∀ W, Calls Try.prog 17 #[.int .i64 a0, .int .i64 70] W fun r W' => r = .returned (.int .i64 (e : Nat)) ∧ W = W' := fun W => by
    have := below_any a0 70 W (by omega) (by omega)
    rw [he] at this
    exact this
  have he2 : e < 70 := by omega
  have HB := Lib.hid hb
  clear hn hlt he hb w0
  go_enter Try.func5, Try.ntmps5
  go_wp2_with (first
    | (go_at_call 17; refine (HB.out _).mono ?_; rintro r w' ⟨rfl, rfl⟩)
    | (go_at_call 12; refine (New_nil_2 _).mono ?_; rintro r w' ⟨own, A, rfl, hN, hbl, ho⟩)
    | (go_at_call 13; refine (num_any _ _).mono ?_; rintro r w' ⟨rfl, rfl⟩))
  have hS := FillIs.start hN hbl ho
  have HS := Lib.hid hS
  clear hS hN hbl ho
  go_loopw [6] (fun i wr => ∃ k : Nat, k ≤ 64 + e ∧ i = .int .i64 k ∧ FillIs w A k (filled k) [] [] wr) (fun i _ => 64 + e - (intOf i).toNat)
  case atStart => exact ⟨0, Nat.zero_le _, rfl, HS.out⟩
  case round =>
    obtain ⟨k, hk, rfl, hrel⟩ := hrel
    have HR := Lib.hid hrel
    clear hrel
    by_cases hlt : k < 64 + e
    · have hlt' : (k : Int) < 64 + e := by omega
      have hw := u8_of k (by omega)
      go_wp2_with fail
      refine ((HR.out.alloc (.cells #[.int .u8 k] 5)).send0 (by omega) k _ (heap_alloc_new _ _) (by simp)).mono ?_
      rintro r w' ⟨rfl, hF, hsz, _⟩
      rw [filled_succ] at hF
      have HF := Lib.hid hF
      clear hF hsz
      go_wp2_with (first
        | (go_at_call 13; refine (num_any _ _).mono ?_; rintro r w' ⟨rfl, rfl⟩))
      go_roundw
      case rel => 
        refine ⟨k + 1, by omega, by go_num, ?_⟩
        obtain ⟨own, N, h1, h2, h3, h4, h5⟩ := HF.out
        exact ⟨own, N, h1, h2, h3, h4, fun b hb => by simp at hb⟩
      case measure => simp [intOf]; omega
    · have hge : ¬ (k : Int) < 64 + e := by omega
      obtain rfl : k = 64 + e := by omega
      go_wp2_with fail
      have hF0 := HR.out
      rw [filled_all (show 64 ≤ 64 + e by omega)] at hF0
      refine (hF0.wait0).mono ?_
      rintro r wa ⟨g, c, rfl, hx, hFa, hsa, hka⟩
      have HFa := Lib.hid hFa
      have HX := Lib.hid hx
      clear hFa hx hF0 hsa hka
      go_wp2_with fail
      refine ((HFa.out.alloc (.cells #[.int .u8 200] 5)).send0 (by omega) 200 _ (heap_alloc_new _ _) (by simp)).mono ?_
      rintro r wb ⟨rfl, hFb, hsb, hkb⟩
      have hgl : g < wa.heap.size := World.block_lt_of_cell? _ _ HX.out
      have hxb : wb.cell? ⟨g, 0, none⟩ = some (.int .u8 0) := by
        rw [World.cell?_of_block (w := wa) (a := ⟨g, 0, none⟩) ((hkb g (by simp)).trans (Below.heap_alloc _ _ _ hgl))]; exact HX.out
      have HFb := Lib.hid hFb
      have HXb := Lib.hid hxb
      have hglb : g < wb.heap.size := World.block_lt_of_cell? _ _ hxb
      clear hFb hsb hkb hxb
      go_wp2_with fail
      refine ((HFb.out.alloc (.cells #[.int .u8 201] 5)).send1 (by omega) 201 _ (heap_alloc_new _ _) (by simp)).mono ?_
      rintro r wc ⟨rfl, hFc, hsc, hkc⟩
      have hxc : wc.cell? ⟨g, 0, none⟩ = some (.int .u8 0) := by
        rw [World.cell?_of_block (w := wb) (a := ⟨g, 0, none⟩) ((hkc g (by simp)).trans (Below.heap_alloc _ _ _ hglb))]; exact HXb.out
      have HFc := Lib.hid hFc
      have HXc := Lib.hid hxc
      clear hFc hsc hkc hxc
      go_wp2_with fail
      refine (HFc.out.wait1).mono ?_
      rintro r wd ⟨g2, c2, rfl, hy, hFd, hsd, hkd⟩
      have hxd : wd.cell? ⟨g, 0, none⟩ = some (.int .u8 0) := by
        rw [World.cell?_of_block (w := wc) (a := ⟨g, 0, none⟩) (hkd g (by simp))]; exact HXc.out
      have hFd := FillIs.forget hFd
      have e1 : (if ((List.range 63).map fun (j : Nat) => [((j : Int) + 1)]).length < 64 then ((List.range 63).map fun (j : Nat) => [((j : Int) + 1)]) ++ [[(200 : Int)]] else ((List.range 63).map fun (j : Nat) => [((j : Int) + 1)])) = rest 1 := by
        rw [rest_one, if_pos (by simp)]
      rw [e1] at hFd
      have HFd := Lib.hid hFd
      clear hFd hsd hkd e1
      go_wp2_with (first
        | (go_at_call 13; refine (num_any _ _).mono ?_; rintro r w' ⟨rfl, rfl⟩))
      clear hxd hy
      go_loopw [14] (fun i wr => ∃ k : Nat, 1 ≤ k ∧ k ≤ 65 ∧ i = .int .i64 k ∧ FillIs w A (64 + e + 1 + 1) (rest k) [] [] wr) (fun i _ => 65 - (intOf i).toNat)
      case atStart => exact ⟨1, by omega, by omega, rfl, HFd.out⟩
      case round =>
        obtain ⟨k, hk1, hk2, rfl, hrel⟩ := hrel
        have HQ := Lib.hid hrel
        clear hrel
        by_cases h64 : k ≤ 64
        · have hle : (k : Int) ≤ 64 := by omega
          have hdle : decide ((k : Int) ≤ 64) = true := by simpa using hle
          by_cases hlt : k < 64
          · have hne : ((k : Int) == 64) = false := by simp; omega
            have hw := u8_of k (by omega)
            have hq := HQ.out
            rw [rest_mid k hk1 hlt] at hq
            go_wp2_with fail
            refine (hq.wait0).mono ?_
            rintro r wz ⟨gz, cz, rfl, hz, hFz, hsz, hkz⟩
            have HFZ := Lib.hid (FillIs.forget hFz)
            clear hFz hsz hkz hq
            go_wp2_with (first
              | (go_at_call 13; refine (num_any _ _).mono ?_; rintro r w' ⟨rfl, rfl⟩))
            go_roundw
            case rel => exact ⟨k + 1, by omega, by omega, by go_num, HFZ.out⟩
            case measure => simp [intOf]; omega
          · obtain rfl : k = 64 := by omega
            have hq := HQ.out
            rw [rest_last] at hq
            go_wp2_with fail
            refine (hq.wait0).mono ?_
            rintro r wz ⟨gz, cz, rfl, hz, hFz, hsz, hkz⟩
            have HFZ := Lib.hid (FillIs.forget hFz)
            clear hFz hsz hkz hq
            go_wp2_with (first
              | (go_at_call 13; refine (num_any _ _).mono ?_; rintro r w' ⟨rfl, rfl⟩))
            go_roundw
            case rel => exact ⟨65, by omega, by omega, by go_num, HFZ.out⟩
            case measure => simp [intOf]
        · obtain rfl : k = 65 := by omega
          have hq := HQ.out
          rw [rest_end] at hq
          have HQ' := Lib.hid hq
          clear hq
          go_wp2_with (first
            | (go_at_call 15; refine (HQ'.out.waiting0).mono ?_; rintro r w' ⟨rfl, rfl⟩)
            | (go_at_call 16; refine (HQ'.out.now).mono ?_; rintro r w' ⟨rfl, rfl⟩)
            | (go_at_call 13; refine (num_any _ _).mono ?_; rintro r w' ⟨rfl, rfl⟩))
          go_ret
          exact ⟨rfl, HQ'.out.below⟩

set_option maxRecDepth 100000 in
theorem lifted (os : Os) (started : os.Started) (H : Type) (enc : TypeId × Value → H) :
    ReturnsInHanded {} Try.checked os 5 .any (Rows.laneFillsSpec.pre6 enc Try.prog Try.f5 Rows.laneFillsRow.domain false) (Rows.laneFillsSpec.post enc Try.prog Try.f5 false true false false) := by
  refine returnsInHanded_of_change (C := Try.checked) own started (by kernel_rfl) Try.func5
    (ChangeSpec.witness6 (enc := enc) (C := Try.checked) false ⟨#[], #[.int .i64 0], []⟩ 8 (by kernel_rfl) (by kernel_rfl) (by kernel_rfl) (by kernel_rfl)) ?_
  intro W base args ds gs before hval0 hW hcnd _
  have hval : ∀ (j : Nat) t v, Try.f5.params[j]? = some t → args[j]? = some v → Value.okWide Try.prog W .any base t v := hval0
  have hW' := hW
  obtain ⟨p, q, hA0, hV, rfl, hfz, hnd⟩ := hW
  have hA : DataW.TrodAll enc Try.prog W 0 (fun _ => true) true Try.f5.params.toList args.toList ds p := hA0
  rw [Try.params5] at hA hval
  obtain ⟨v0, vs0, d0, ds0, p0, q0, hargs, rfl, rfl, h0, r0⟩ := trodAll_cons hA
  obtain ⟨rfl, rfl, rfl⟩ := trodAll_nil r0
  obtain rfl : args = #[v0] := by cases args; simp_all
  obtain ⟨rfl, rfl⟩ := trodVars_none hV
  obtain ⟨a0, rfl, rfl, rfl, w0⟩ := open_int Try.underlying3 (hval 0 3 v0 rfl rfl) h0
  clear hA0 hval0
  simp only [List.append_nil] at hW'
  refine (walk a0 w0 W).mono fun e W' ⟨he, bel⟩ => ?_
  subst he
  exact ⟨_, rfl, _, _, _, [], [], [], hW', trodAll_mk1 (shut_bool Try.underlying4 _), (trodAll_cons_mk (shut_int Try.underlying3 w0) trodAll_mk0), rfl, bel.frame _, fun h => by cases h⟩

theorem over : Rows.laneFillsRow.holds Try.pinned (OpenSpec.ofChange Rows.laneFillsSpec) :=
  OpenClaim.holds_of_wide 5 Try.f5 rfl rfl rfl rfl rfl rfl rfl ⟨rfl, rfl, rfl, rfl, rfl⟩ rfl rfl rfl rfl rfl (by kernel_rfl) Try.func5 (by kernel_rfl)
    (of_decide_eq_true (by kernel_rfl)) (by unfold Func.isWrapper; first | (rw [if_pos (by decide +kernel)]; kernel_rfl) | (rw [if_neg (by decide +kernel)]; exact ⟨rfl, rfl⟩))
    (fun os started H enc _ => lifted os started H enc)

theorem proved : Rows.LaneFillsSaid :=
  over
#print axioms proved
end Go.Proofs.Ytadalodjnbnjkaa.laneFills
