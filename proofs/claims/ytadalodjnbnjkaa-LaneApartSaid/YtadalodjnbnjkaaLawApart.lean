/- LaneApart: for every input the call returns true; no condition. -/
import Derived.Test.YtadalodjnbnjkaaRows
import Derived.Test.YtadalodjnbnjkaaOne4
import Derived.Test.YtadalodjnbnjkaaRaw
import Derived.WalkKit
import Derived.ProofKit
import Derived.OpenShut
import Derived.ShutString
import Derived.ChangeOld
import Derived.Below
import Derived.Deep.CutBlock
import Derived.Deep.DeepCutAuto
import Derived.Laws.AppendOwnNone
namespace Go.Proofs.Ytadalodjnbnjkaa.laneApart
open Go.Proofs.Ytadalodjnbnjkaa
open Go.ChangeShapes Go.WideShapes Go.ChangeAt Go.RowKit Go.Conc
open Go.ChangeMaps (open_string shut_string)
set_option linter.unusedVariables false

theorem own : ownKnob Try.prog.godebug = none := by kernel_rfl
theorem laidOut : laidOutB Try.prog = true := by kernel_rfl

theorem cells_get {L : List SntA} : ∀ {i j : Nat} {x : SntA} {u : Value}, L[i]? = some x → x.cells[j]? = some u → (sntCells L)[i * 5 + j]? = some u := by
  induction L with
  | nil => intro i j x u h; simp at h
  | cons y L ih =>
    intro i j x u h hj
    have hlen : y.cells.length = 5 := rfl
    show (y.cells ++ sntCells L)[i * 5 + j]? = some u
    rcases i with _ | i
    · obtain rfl := Option.some.inj h
      have : j < 5 := by
        have := (List.getElem?_eq_some_iff.1 hj).1
        rw [hlen] at this; exact this
      rw [Nat.zero_mul, Nat.zero_add, List.getElem?_append_left (by rw [hlen]; exact this)]
      exact hj
    · rw [List.getElem?_append_right (by rw [hlen]; omega), hlen, show (i + 1) * 5 + j - 5 = i * 5 + j by omega]
      exact ih h hj
theorem sentsIn_of_row {wr : World} {base g cap : Nat} {L : List SntA} (hown : wr.ownsRow base 55 5 (.slice (some ⟨g, 0, none⟩) L.length cap) L.length (sntCells L)) (hrow : ∀ x ∈ L, RowIn wr x.a x.s.data.length x.s.data) : SentsIn wr g (L.map (·.s)) := by
  have hc := hown.cells (g := g) rfl
  have e1 : ∀ i, (⟨g, 0, none⟩ : Addr).add i = ⟨g, i, none⟩ := fun i => by unfold Addr.add; split <;> simp_all
  intro i s hs
  simp only [List.getElem?_map, Option.map_eq_some_iff] at hs
  obtain ⟨x, hx, rfl⟩ := hs
  have get : ∀ j u, x.cells[j]? = some u → wr.cell? ⟨g, i * 5 + j, none⟩ = some u := fun j u hj => by
    have := hc _ _ (cells_get hx hj)
    rw [e1] at this
    exact this
  exact ⟨x.a, x.c, get 0 _ rfl, get 1 _ rfl, get 2 _ rfl, get 3 _ rfl, get 4 _ rfl, hrow x (List.mem_of_getElem? hx)⟩

/-- The first message of the two runs. -/
def F1 : Snt := ⟨0, 1, [1, 2, 3], (0, 0)⟩
def JRel (w : World) (s3 : Value) (wx : World) : Prop :=
  ∃ (S : List Snt) (g cap : Nat), s3 = .slice (some ⟨g, 0, none⟩) (S.length + 1) cap ∧ S.length ≤ 24 ∧ Below w.heap.size w wx ∧ SentsIn wx g (F1 :: S) ∧ (∀ s ∈ F1 :: S, TameS s) ∧ ∀ s ∈ S, s.fate.2 ≤ 40
def o1 : Obj := .cells #[.int .u8 1, .int .u8 2, .int .u8 3] 5
def o2 (w : World) : Obj := .cells #[.int .i64 0, .int .i64 1, .slice (some ⟨w.heap.size, 0, none⟩) 3 3, .int .i64 0, .int .i64 0] 55
def w2 (w : World) : World := (w.alloc o1).alloc (o2 w)
theorem w2_below (w : World) : Below w.heap.size w (w2 w) := ((Below.refl _ _).alloc (Nat.le_refl _) _).alloc (by simp) _
theorem w2_size (w : World) : (w2 w).heap.size = w.heap.size + 2 := by simp [w2]
theorem w2_row (w : World) : (w2 w).heap[w.heap.size + 1]? = some (o2 w) := by
  have := heap_alloc_new (w.alloc o1) (o2 w)
  simpa [w2] using this
theorem w2_data (w : World) : (w2 w).heap[w.heap.size]? = some o1 := by
  have h := heap_alloc_new w o1
  exact (Below.heap_alloc (w.alloc o1) (o2 w) w.heap.size (by simp)).trans h
def cells0 (w : World) : List Value := [.int .i64 0, .int .i64 1, .slice (some ⟨w.heap.size, 0, none⟩) 3 3, .int .i64 0, .int .i64 0]
theorem own0 {w wb : World} (hb : Below (w2 w).heap.size (w2 w) wb) : wb.ownsRow w.heap.size 55 5 (.slice (some ⟨w.heap.size + 1, 0, none⟩) 1 1) 1 (cells0 w) := by
  have h : wb.heap[w.heap.size + 1]? = some (o2 w) := (hb.block _ (by rw [w2_size]; omega)).trans (w2_row w)
  exact ⟨rfl, .inr ⟨w.heap.size + 1, 1, _, rfl, by omega, h, Nat.le_refl _, by unfold maxLen; omega, rfl, rfl⟩⟩
theorem JRel.mk {w wb w3 : World} {L : List SntA} {v v' : Value} (hsc : ScRel w (w2 w) L v wb) (hL : L.length ≤ 24) (hown : w3.ownsRow w.heap.size 55 5 v' (1 + L.length) (cells0 w ++ sntCells L))
    (hg : wb.grownBy w3 (some (w.heap.size + 1))) : JRel w v' w3 := by
  have hbw : Below w.heap.size w wb := ((Mv.of_below (w2_below w)).trans (Mv.of_below hsc.1)).below
  have hb3 : Below w.heap.size w w3 := hbw.grown hg hbw.size (fun j hj => by cases hj; omega)
  have hd : w3.heap[w.heap.size]? = some o1 := by
    have hsz := hsc.1.size
    rw [w2_size] at hsz
    exact ((hg.block w.heap.size (by omega) (by simp)).trans (hsc.1.block _ (by rw [w2_size]; omega))).trans (w2_data w)
  rcases hown.2 with ⟨_, hz⟩ | ⟨g, cap, cur, rfl, q1, q2, q3, q4, q5, q6⟩
  · omega
  · refine ⟨L.map (·.s), g, cap, by rw [List.length_map, Nat.add_comm], by rw [List.length_map]; exact hL, hb3, ?_, ?_, ?_⟩
    · have e : sntCells (⟨F1, some ⟨w.heap.size, 0, none⟩, 3⟩ :: L) = cells0 w ++ sntCells L := rfl
      have := sentsIn_of_row (wr := w3) (base := w.heap.size) (g := g) (cap := cap) (L := ⟨F1, some ⟨w.heap.size, 0, none⟩, 3⟩ :: L) (by rw [e, List.length_cons, Nat.add_comm L.length 1]; exact hown) (fun x hx => ?_)
      · exact this
      · rcases List.mem_cons.1 hx with rfl | hx
        · refine ⟨rfl, .inr ⟨w.heap.size, 0, rfl, fun j hj => ?_⟩⟩
          have hj3 : j < 3 := hj
          rw [Nat.zero_add]
          rcases j with _ | _ | _ | j
          · exact cell_of_heap hd 0 rfl
          · exact cell_of_heap hd 1 rfl
          · exact cell_of_heap hd 2 rfl
          · omega
        · exact (hsc.2.2 x hx).2.still hb3
    · intro s hs
      rcases List.mem_cons.1 hs with rfl | hs
      · exact ⟨by show 0 ≤ 20; omega, by show 1 < 2; omega, by show 3 ≤ 4096; omega, .inl rfl⟩
      · obtain ⟨x, hx, rfl⟩ := List.mem_map.1 hs
        exact (hsc.2.2 x hx).1.1
    · intro s hs
      obtain ⟨x, hx, rfl⟩ := List.mem_map.1 hs
      exact (hsc.2.2 x hx).1.2

set_option maxRecDepth 100000 in
set_option maxHeartbeats 6400000 in
theorem walk (a0 : Option Addr) (len0 cap0 : Nat) (w : World) (hraw : RawIn w w a0 len0) (hlen : len0 ≤ maxLen) :
    Calls Try.prog 6 #[.slice a0 len0 cap0] w fun e w' => e = .returned (.bool true) ∧ Below w.heap.size w w' := by
  obtain ⟨i0, hi0, hz0, hz1, hz2⟩ := info_parts Try.info55
  have HRAW := Lib.hid hraw
  clear hraw
  go_enter Try.func6, Try.ntmps6
  go_upto_region 1 with fail
  go_cut [3] (fun s3 wx => JRel w s3 wx)
  case first =>
    go_wp2_with fail
    refine (script_any w (w2 w) a0 len0 cap0 (HRAW.out.still (w2_below w))).mono ?_
    rintro r wb ⟨L, v, rfl, hL24, hsc⟩
    have HSC := Lib.hid hsc
    have hown := own0 hsc.1
    have hsz := hsc.1.size
    rw [w2_size] at hsz
    rcases hsc.2.1.2 with ⟨rfl, hz⟩ | ⟨g, cap, cur, rfl, q1, q2, q3, q4, q5, q6⟩
    · have hL : L = [] := List.eq_nil_of_length_eq_zero hz
      clear hsc hz
      go_wp2_with (at_builtin; refine wpList_append_own_none rfl _ _ 51 rfl w.heap.size 55 i0 5 Try.underlying51 hi0 _ _ _ rfl hown rfl ?_)
      go_meet
      exact JRel.mk HSC.out hL24 (by rw [hL]; exact hown) ⟨rfl, rfl, rfl, Nat.le_refl _, fun _ _ _ => rfl⟩
    · obtain ⟨m, hm⟩ : ∃ m, m = L.length := ⟨_, rfl⟩
      have hcells := hsc.2.1.cells (g := g) rfl
      have h1 : ∀ u ∈ sntCells L, u.oneCell' = true := by
        intro u hu
        simp only [sntCells, List.mem_flatMap, SntA.cells] at hu
        obtain ⟨x, _, hu⟩ := hu
        simp at hu
        rcases hu with rfl | rfl | rfl | rfl | rfl <;> rfl
      have hl5 := hsc.2.1.1
      rw [← hm] at hl5 hL24 ⊢
      have HC := Lib.hid hcells
      have H1 := Lib.hid h1
      have HM := Lib.hid hm
      clear hsc hcells h1 hm q1 q2 q3 q4 q5 q6
      go_wp2_with (at_builtin; refine wpList_append_own _ rfl _ _ 51 rfl w.heap.size 55 i0 _ 5 56 Try.underlying51 hi0 hz0 hz1 hz2 rfl (by decide) _ 1 (cells0 w) rfl hown ⟨g, 0, none⟩ m cap (sntCells L) rfl hl5 HC.out H1.out ?c4 ?c5 ?c6 ?_)
      case c4 => unfold maxLen; omega
      case c5 => omega
      case c6 => omega
      intro v' w3 hown3 hgrow _
      rw [HM.out] at hown3
      have hJ : JRel w v' w3 := JRel.mk HSC.out (by rw [← HM.out]; exact hL24) hown3 hgrow
      have HJ := Lib.hid hJ
      obtain ⟨S, g', cap', rfl, _⟩ := hJ
      clear hown3 hgrow
      go_wp2_with fail
      go_meet
      exact HJ.out
  case rest =>
    obtain ⟨S, g, cap, rfl, hS24, hbel, hin, htame, hfate⟩ := hcut
    have HBEL := Lib.hid hbel
    have HIN := Lib.hid hin
    have HT := Lib.hid htame
    have hstart := apart_start (m := [1, 2, 3]) htame hfate hS24
    clear hbel hin htame hfate HRAW hi0 hz0 hz1 hz2
    go_wp2_with fail
    refine (sends_any wc _ g (S.length + 1) cap (F1 :: S) true (.inr rfl) rfl (by omega) HT.out HIN.out).mono ?_
    rintro r wd ⟨A, rfl, hHa⟩
    have HHa := Lib.hid hHa
    clear hHa
    go_wp2_with fail
    refine (sends_any wd _ g (S.length + 1) cap (F1 :: S) false (.inr rfl) rfl (by omega) HT.out (HIN.out.still HHa.out.below)).mono ?_
    rintro r we ⟨A₂, rfl, hHb⟩
    have hP := Pair.start (HHa.out.ahead (Mv.of_below HBEL.out)) hHb
    obtain ⟨N0, M0, e1, e2, hgn, hgm, hv, hnear, hpend, hhead⟩ := hstart
    have e1' : sendsN true true (F1 :: S) = N0 := e1
    have e2' : sendsN false true (F1 :: S) = M0 := e2
    have hsm : (view 1 N0).Small := by rw [← e1']; exact sends_small HT.out
    have HSM := Lib.hid hsm
    clear hsm
    rw [e1', e2'] at hP
    obtain ⟨n, hn⟩ : ∃ n, n = S.length + 1 := ⟨_, rfl⟩
    rw [← hn] at hpend ⊢
    have hn25 : n ≤ 25 := by omega
    have HP := Lib.hid hP
    have HGN := Lib.hid hgn
    have HGM := Lib.hid hgm
    have HV := Lib.hid hv
    have HNE := Lib.hid hnear
    have HPE := Lib.hid hpend
    have HHE := Lib.hid hhead
    have hgg : ((gaps (F1 :: S) : Int) != gaps (F1 :: S)) = false := by simp
    clear hP hHb hgn hgm hv hnear hpend hhead e1 e2 e1' e2' hn
    go_wp2_with fail
    go_loopw [10] (fun i wr => ∃ (k : Nat) (N M : Nt), k ≤ 2 * n + 1 ∧ i = .int .i64 k ∧ Pair w A N A₂ M [] wr ∧ Going N (600 + 50 * k) ∧ Going M (600 + 50 * k) ∧ view 1 N = view 1 M ∧ (view 1 N).Near 40 ∧ (view 1 N).Small ∧ (view 1 N).pend ≤ 2 * n - k ∧ (k = 0 → ∃ r, (view 1 N).buf = [1, 2, 3] :: r)) (fun i _ => 2 * n + 1 - (intOf i).toNat)
    case atStart => exact ⟨0, N0, M0, by omega, rfl, HP.out, HGN.out, HGM.out, HV.out, HNE.out, HSM.out, by have := HPE.out; omega, fun _ => HHE.out⟩
    case round =>
      obtain ⟨k, N, M, hk, rfl, hP, hgn, hgm, hv, hnear, hsm, hpend, hhead⟩ := hrel
      have HP := Lib.hid hP
      have HGN := Lib.hid hgn
      have HGM := Lib.hid hgm
      have HHE := Lib.hid hhead
      by_cases hlt : k < 2 * n + 1
      · have hlt' : (k : Int) < 2 * (n : Int) + 1 := by omega
        rcases apart_round hgn hgm hv hnear hpend with ⟨m, x, y, N', M', hx, hy, hgn', hgm', hv', hnear', hpend', hhd⟩ | ⟨x, y, N', M', hx, hy, hgn', hgm', hv', hnear', hpend', hhd⟩
        · have hsw := small_wait (HGN.out.opn 1) hx hsm
          have HSW := Lib.hid hsw.1
          have HML0 := Lib.hid (hsw.2 m rfl)
          clear hsw hsm
          have HX := Lib.hid hx
          have HY := Lib.hid hy
          have HN' := Lib.hid hgn'
          have HM' := Lib.hid hgm'
          have HV' := Lib.hid hv'
          have HE' := Lib.hid hnear'
          have HP' := Lib.hid hpend'
          have hm0 : k = 0 → m = [1, 2, 3] := fun h => by obtain ⟨r, hr⟩ := HHE.out h; exact hhd _ _ hr
          have HM0 := Lib.hid hm0
          clear hP hgn hgm hv hnear hpend hhead hx hy hgn' hgm' hv' hnear' hpend' hhd hm0
          go_wp2_with fail
          refine (HP.out.waitM (HGN.out.fine (by omega)) 1 50 (by rw [HGN.out.nl]; omega) (by omega) HX.out).mono ?_
          rintro r wf ⟨g1, c1, rfl, hr1, hP1, hk1⟩
          have HP1 := Lib.hid hP1
          have HR1 := Lib.hid hr1
          clear hP1 hr1 hk1
          go_wp2_with fail
          refine (HP1.out.swap.waitM (HGM.out.fine (by omega)) 1 50 (by rw [HGM.out.nl]; omega) (by omega) HY.out).mono ?_
          rintro r wh ⟨g2, c2, rfl, hr2, hP2, hk2⟩
          have HP2 := Lib.hid hP2.swap
          have HR2 := Lib.hid hr2
          have HR1' := Lib.hid (HR1.out.kept hk2 (by simp))
          have hml : m.length ≤ 1099511627776 := by have := HML0.out; omega
          have HML := Lib.hid hml
          clear hP2 hr2 hk2 hml
          go_wp2_with fail
          refine (HP2.out.same HR1'.out HR2.out HML.out).mono ?_
          rintro r wi ⟨rfl, hP3, hh3⟩
          have e1 := sameB_self m
          rw [e1]
          have HP3 := Lib.hid hP3
          have hq := congrArg One.now HV'.out
          have hn1 : ∀ W K, Pair w A N' A₂ M' K W → Calls Try.prog 16 #[.pointer (some ⟨A.net, 0, none⟩)] W fun r w' => r = .returned (.int .i64 N'.now) ∧ W = w' := fun W K hW => hW.now
          have hn2 : ∀ W K, Pair w A N' A₂ M' K W → Calls Try.prog 16 #[.pointer (some ⟨A₂.net, 0, none⟩)] W fun r w' => r = .returned (.int .i64 N'.now) ∧ W = w' := fun W K hW => by
            have := hW.swap.now
            rw [show M'.now = N'.now from hq.symm] at this
            exact this
          have HN1 := Lib.hid hn1
          have HN2 := Lib.hid hn2
          have hne : ((N'.now : Int) != N'.now) = false := by simp
          clear hP3 hh3 e1 hq hn1 hn2
          by_cases hk0 : k = 0
          · obtain rfl := HM0.out hk0
            subst hk0
            go_wp2_with (first | (go_at_call 13; refine (num_any _ _).mono ?_; rintro r w' ⟨rfl, rfl⟩) | (go_at_call 16; refine (HN1.out _ _ HP3.out).mono ?_; rintro r w' ⟨rfl, rfl⟩) | (go_at_call 16; refine (HN2.out _ _ HP3.out).mono ?_; rintro r w' ⟨rfl, rfl⟩))
            go_roundw
            case rel => exact ⟨1, N', M', by omega, by go_num, HP3.out.sub (by simp), HN'.out, HM'.out, HV'.out, HE'.out, HSW.out, HP'.out, fun h => by omega⟩
            case measure => simp [intOf]
          · have hk1 : ((k : Int) == 0) = false := by simp; omega
            go_wp2_with (first | (go_at_call 13; refine (num_any _ _).mono ?_; rintro r w' ⟨rfl, rfl⟩) | (go_at_call 16; refine (HN1.out _ _ HP3.out).mono ?_; rintro r w' ⟨rfl, rfl⟩) | (go_at_call 16; refine (HN2.out _ _ HP3.out).mono ?_; rintro r w' ⟨rfl, rfl⟩))
            go_roundw
            case rel => exact ⟨k + 1, N', M', by omega, by go_num, HP3.out.sub (by simp), HN'.out.more (by omega), HM'.out.more (by omega), HV'.out, HE'.out, HSW.out, by have := HP'.out; omega, fun h => by omega⟩
            case measure => simp [intOf]; omega
        · have hsw := small_wait (HGN.out.opn 1) hx hsm
          have HSW := Lib.hid hsw.1
          clear hsw hsm
          have HX := Lib.hid hx
          have HY := Lib.hid hy
          have HN' := Lib.hid hgn'
          have HM' := Lib.hid hgm'
          have HV' := Lib.hid hv'
          have HE' := Lib.hid hnear'
          have HP' := Lib.hid hpend'
          have hk0 : k ≠ 0 := fun h => by obtain ⟨r, hr⟩ := HHE.out h; rw [hhd] at hr; simp at hr
          have hk1 : ((k : Int) == 0) = false := by simp; omega
          clear hP hgn hgm hv hnear hpend hhead hx hy hgn' hgm' hv' hnear' hpend' hhd
          go_wp2_with fail
          refine (HP.out.waitE (HGN.out.fine (by omega)) 1 50 (by rw [HGN.out.nl]; omega) (by omega) HX.out).mono ?_
          rintro r wf ⟨rfl, hP1, hk1⟩
          have HP1 := Lib.hid hP1
          clear hP1 hk1
          go_wp2_with fail
          refine (HP1.out.swap.waitE (HGM.out.fine (by omega)) 1 50 (by rw [HGM.out.nl]; omega) (by omega) HY.out).mono ?_
          rintro r wh ⟨rfl, hP2, hk2⟩
          have HP2 := Lib.hid hP2.swap
          clear hP2 hk2
          go_wp2_with fail
          refine (HP2.out.same (RowIn.nil _) (RowIn.nil _) (by omega)).mono ?_
          rintro r wi ⟨rfl, hP3, hh3⟩
          have e1 := sameB_self ([] : List Int)
          rw [e1]
          have HP3 := Lib.hid hP3
          have hq := congrArg One.now HV'.out
          have hn1 : ∀ W K, Pair w A N' A₂ M' K W → Calls Try.prog 16 #[.pointer (some ⟨A.net, 0, none⟩)] W fun r w' => r = .returned (.int .i64 N'.now) ∧ W = w' := fun W K hW => hW.now
          have hn2 : ∀ W K, Pair w A N' A₂ M' K W → Calls Try.prog 16 #[.pointer (some ⟨A₂.net, 0, none⟩)] W fun r w' => r = .returned (.int .i64 N'.now) ∧ W = w' := fun W K hW => by
            have := hW.swap.now
            rw [show M'.now = N'.now from hq.symm] at this
            exact this
          have HN1 := Lib.hid hn1
          have HN2 := Lib.hid hn2
          have hne : ((N'.now : Int) != N'.now) = false := by simp
          clear hP3 hh3 e1 hq hn1 hn2
          have hk1 : ((k : Int) == 0) = false := by simp; omega
          go_wp2_with (first | (go_at_call 13; refine (num_any _ _).mono ?_; rintro r w' ⟨rfl, rfl⟩) | (go_at_call 16; refine (HN1.out _ _ HP3.out).mono ?_; rintro r w' ⟨rfl, rfl⟩) | (go_at_call 16; refine (HN2.out _ _ HP3.out).mono ?_; rintro r w' ⟨rfl, rfl⟩))
          go_roundw
          case rel => exact ⟨k + 1, N', M', by omega, by go_num, HP3.out.sub (by simp), HN'.out.more (by omega), HM'.out.more (by omega), HV'.out, HE'.out, HSW.out, by have := HP'.out; omega, fun h => by omega⟩
          case measure => simp [intOf]; omega
      · have hlt' : ¬ (k : Int) < 2 * (n : Int) + 1 := by omega
        obtain rfl : k = 2 * n + 1 := by omega
        obtain ⟨x, N', he⟩ := apart_end hgn (by omega)
        have HE := Lib.hid he
        clear hP hgn hgm hv hnear hsm hpend hhead he HHE
        go_wp2_with fail
        refine (HP.out.waitE (HGN.out.fine (by omega)) 1 0 (by rw [HGN.out.nl]; omega) (by omega) HE.out).mono ?_
        rintro r wf ⟨rfl, hP1, hk1⟩
        have HP1 := Lib.hid hP1
        clear hP1 hk1
        go_wp2_with (first | (go_at_call 13; refine (num_any _ _).mono ?_; rintro r w' ⟨rfl, rfl⟩))
        go_ret
        exact ⟨rfl, HP1.out.below⟩

set_option maxRecDepth 100000 in
theorem lifted (os : Os) (started : os.Started) (H : Type) (enc : TypeId × Value → H) :
    ReturnsInHanded {} Try.checked os 6 .any (Rows.laneApartSpec.pre6 enc Try.prog Try.f6 Rows.laneApartRow.domain false) (Rows.laneApartSpec.post enc Try.prog Try.f6 false true false false) := by
  refine returnsInHanded_of_change (C := Try.checked) own started (by kernel_rfl) Try.func6
    (ChangeSpec.witness6 (enc := enc) (C := Try.checked) false ⟨#[], #[.slice none 0 0], []⟩ 8 (by kernel_rfl) (by kernel_rfl) (by kernel_rfl) (by kernel_rfl)) ?_
  intro W base args ds gs before hval0 hW hcnd _
  have hval : ∀ (j : Nat) t v, Try.f6.params[j]? = some t → args[j]? = some v → Value.okWide Try.prog W .any base t v := hval0
  have hW' := hW
  obtain ⟨p, q, hA0, hV, rfl, hfz, hnd⟩ := hW
  have hA : DataW.TrodAll enc Try.prog W 0 (fun _ => true) true Try.f6.params.toList args.toList ds p := hA0
  rw [Try.params6] at hA hval
  obtain ⟨v0, vs0, d0, ds0, p0, q0, hargs, rfl, rfl, h0, r0⟩ := trodAll_cons hA
  obtain ⟨rfl, rfl, rfl⟩ := trodAll_nil r0
  obtain rfl : args = #[v0] := by cases args; simp_all
  obtain ⟨rfl, rfl⟩ := trodVars_none hV
  obtain ⟨a0, len0, cap0, rfl⟩ := okWide_slice Try.underlying51 (hval 0 51 v0 rfl rfl)
  have k0 := h0
  have lt0 : ∀ x ∈ p0, x.block < W.heap.size := by obtain ⟨m, hm⟩ := k0; exact DataW.trod_lt m _ _ _ hm
  obtain ⟨hraw, hlen⟩ : RawIn W W a0 len0 ∧ len0 ≤ maxLen := by
    obtain ⟨fuel, hf⟩ := h0
    exact rawIn_of_trod hf
  clear hA0 hval0
  simp only [List.append_nil] at hW'
  refine (walk a0 len0 cap0 W hraw hlen).mono fun e W' ⟨he, bel⟩ => ?_
  subst he
  exact ⟨_, rfl, _, _, _, [], _, [], hW', trodAll_mk1 (shut_bool Try.underlying4 _), (trodAll_cons_mk (Below.trod laidOut (by kernel_rfl) (of_decide_eq_true (by kernel_rfl)) k0 bel lt0) trodAll_mk0), rfl, bel.frame _, fun h => by cases h⟩

theorem over : Rows.laneApartRow.holds Try.pinned (OpenSpec.ofChange Rows.laneApartSpec) :=
  OpenClaim.holds_of_wide 6 Try.f6 rfl rfl rfl rfl rfl rfl rfl ⟨rfl, rfl, rfl, rfl, rfl⟩ rfl rfl rfl rfl rfl (by kernel_rfl) Try.func6 (by kernel_rfl)
    (of_decide_eq_true (by kernel_rfl)) (by unfold Func.isWrapper; first | (rw [if_pos (by decide +kernel)]; kernel_rfl) | (rw [if_neg (by decide +kernel)]; exact ⟨rfl, rfl⟩))
    (fun os started H enc _ => lifted os started H enc)

theorem proved : Rows.LaneApartSaid := over
#print axioms proved
end Go.Proofs.Ytadalodjnbnjkaa.laneApart
