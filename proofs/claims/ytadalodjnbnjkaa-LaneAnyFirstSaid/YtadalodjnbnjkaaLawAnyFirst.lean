/- LaneAnyFirst: for every input the call returns true; no condition. -/
import Derived.Test.YtadalodjnbnjkaaRows
import Derived.Test.YtadalodjnbnjkaaFirst
import Derived.Test.YtadalodjnbnjkaaSteps
import Derived.WalkKit
import Derived.ProofKit
import Derived.OpenShut
import Derived.ShutString
import Derived.ChangeOld
import Derived.Below
import Derived.Deep.Grids
import Derived.Deep.CutBlock
import Derived.Deep.DeepCutAuto
import Derived.Deep.RegionHeld3
namespace Go.Proofs.Ytadalodjnbnjkaa.laneAnyFirst
open Go.Proofs.Ytadalodjnbnjkaa
open Go.ChangeShapes Go.WideShapes Go.ChangeAt Go.RowKit Go.Conc
open Go.ChangeMaps (open_string shut_string)
set_option linter.unusedVariables false

theorem own : ownKnob Try.prog.godebug = none := by kernel_rfl
theorem laidOut : laidOutB Try.prog = true := by kernel_rfl

/-- Elements of a slice that came in. -/
def ElIn (w : World) (a : Option Addr) (len : Nat) (V : Nat → Value) : Prop :=
  ∀ i, i < len → ∃ b off, a = some ⟨b, off, none⟩ ∧ w.cell? ⟨b, off + i, none⟩ = some (V i)
theorem ElIn.still {w w' : World} {a : Option Addr} {len : Nat} {V : Nat → Value} (h : ElIn w a len V) (hb : Below w.heap.size w w') : ElIn w' a len V := by
  intro i hi
  obtain ⟨b, off, h1, h2⟩ := h i hi
  exact ⟨b, off, h1, (hb.cell (p := ⟨b, off + i, none⟩) (World.block_lt_of_cell? w _ h2)).trans h2⟩

theorem Try.info3 : (Try.prog.info? 3).map (fun i => (i.zero, i.size, i.bytes)) = some (some (.int .i64 0), 1, 8) := by kernel_rfl

set_option maxRecDepth 100000 in
set_option maxHeartbeats 6400000 in
theorem walk (a0 : Option Addr) (len0 cap0 : Nat) (z : Nat → Int) (a1 : Option Addr) (len1 cap1 : Nat) (B : Nat → Bool) (a2 : Int) (w : World) (w2 : (Lit.int .i64 a2).wf = true)
    (hz : ElIn w a0 len0 (fun i => .int .i64 (z i))) (hz0 : len0 ≤ maxLen) (hB : ElIn w a1 len1 (fun i => .bool (B i))) (hB0 : len1 ≤ maxLen) :
    Calls Try.prog 9 #[.slice a0 len0 cap0, .slice a1 len1 cap1, .int .i64 a2] w fun e w' => e = .returned (.bool true) ∧ Below w.heap.size w w' := by
  obtain ⟨i0, hi0, hz0', hz1, hz2⟩ := info_parts Try.info3
  obtain ⟨t, ht, b1⟩ := below_nat a2 30 (by omega) (by omega)
  have HT := Lib.hid b1
  have HZ := Lib.hid hz
  have HBB := Lib.hid hB
  clear b1 hz hB w2
  go_enter Try.func9, Try.ntmps9
  go_upto_block 0 with (first
    | (go_at_call 12; refine (New_nil_8 _).mono ?_; rintro r wa ⟨own, A, rfl, hN, hbl, ho⟩)
    | (go_at_call 13; refine (num_any _ _).mono ?_; rintro r w' ⟨rfl, rfl⟩))
  have hH : Holds w A (net0 8 []) [] wa := Holds.start hN hbl ho
  have HH := Lib.hid hH
  have HZa := Lib.hid (HZ.out.still hbl)
  have HBa := Lib.hid (HBB.out.still hbl)
  clear hH hN hbl ho
  go_cut [9] (fun s9 wx => ∃ L : List Nat, L.length ≤ 64 ∧ LsRel wa L s9 wx)
  case first =>
    go_wp2_with fail
    go_loopw [9, 10] (fun lv i wr => ∃ (k : Nat) (L : List Nat), k ≤ 64 ∧ i = .int .i64 k ∧ L.length ≤ k ∧ LsRel wa L lv wr) (fun _ i _ => 64 - (intOf i).toNat)
    case atStart => exact ⟨0, [], by omega, rfl, by simp, LsRel.start _⟩
    case round =>
      obtain ⟨k, L, hk, rfl, hLk, hrel⟩ := hrel
      have HR := Lib.hid hrel
      obtain ⟨ad, cap, hv, hcell⟩ := hrel.shape
      obtain ⟨n, hn⟩ : ∃ n, n = L.length := ⟨_, rfl⟩
      rw [← hn] at hv hcell hLk
      subst hv
      have HN := Lib.hid hn
      have HC := Lib.hid hcell
      clear hrel hcell hn
      by_cases h1 : k < len0
      · have h1' : (k : Int) < len0 := by omega
        by_cases h2 : k < 64
        · have h2' : (k : Int) < 64 := by omega
          obtain ⟨ob, off, rfl, hoc⟩ := (HZa.out.still HR.out.1) k h1
          obtain ⟨x, hx, bx⟩ := below_nat (z k) 8 (by omega) (by omega)
          have HX := Lib.hid bx
          clear bx
          have hk0 : (0 : Int) ≤ k := by omega
          go_wp2_with (first
            | (go_at_call 17; refine (HX.out _).mono ?_; rintro r w' ⟨rfl, rfl⟩))
          go_loopw [12, 13] (fun tw j wr' => ∃ jn : Nat, jn ≤ n ∧ j = .int .i64 jn ∧ tw = .bool (decide (x ∈ L.take jn)) ∧ wr' = wr) (fun _ j _ => n - (intOf j).toNat)
          case atStart => exact ⟨0, Nat.zero_le _, rfl, by simp, rfl⟩
          case round =>
            obtain ⟨jn, hjn, rfl, rfl, rfl⟩ := hrel
            by_cases h3 : jn < n
            · have h3' : (jn : Int) < n := by omega
              obtain ⟨g, rfl, hlc⟩ := HC.out jn h3
              have hmem : (x ∈ L.take (jn + 1)) ↔ (x ∈ L.take jn ∨ L.getD jn 0 = x) := take_succ_mem (by rw [← HN.out]; exact h3)
              obtain ⟨y, hy⟩ : ∃ y, y = L.getD jn 0 := ⟨_, rfl⟩
              rw [← hy] at hlc hmem
              have HM := Lib.hid hmem
              clear hmem hy
              obtain ⟨tw, htw⟩ : ∃ tw, tw = decide (x ∈ L.take jn) := ⟨_, rfl⟩
              rw [← htw]
              have HTW := Lib.hid htw
              clear htw
              have hj0 : (0 : Int) ≤ jn := by omega
              cases tw
              · by_cases hxy : y = x
                · subst hxy
                  have e1 : ((y : Int) == y) = true := by simp
                  go_wp2_with fail
                  go_roundw
                  case rel => exact ⟨jn + 1, by omega, by go_num, by congr 1; symm; exact decide_eq_true (HM.out.2 (.inr rfl)), by trivial⟩
                  case measure => simp [intOf]; omega
                · have e1 : ((y : Int) == x) = false := by simp; omega
                  go_wp2_with fail
                  go_roundw
                  case rel => exact ⟨jn + 1, by omega, by go_num, by congr 1; symm; exact decide_eq_false (fun h => (HM.out.1 h).elim (fun h => by have := HTW.out; simp at this; exact this h) hxy), by trivial⟩
                  case measure => simp [intOf]; omega
              · go_wp2_with fail
                go_roundw
                case rel => exact ⟨jn + 1, by omega, by go_num, by congr 1; symm; exact decide_eq_true (HM.out.2 (.inl (of_decide_eq_true HTW.out.symm))), by trivial⟩
                case measure => simp [intOf]; omega
            · obtain rfl : jn = n := by omega
              have etk : L.take jn = L := List.take_of_length_le (by rw [HN.out]; omega)
              rw [etk]
              have hnn : ¬ ((jn : Int) < jn) := by omega
              by_cases hxL : x ∈ L
              · rw [decide_eq_true hxL]
                go_wp2_with fail
                go_roundw
                case rel => exact ⟨k + 1, L, by omega, by go_num, by rw [← HN.out]; omega, HR.out⟩
                case measure => simp [intOf]; omega
              · rw [decide_eq_false hxL]
                have HXL := Lib.hid hxL
                clear hxL etk
                have hrow : wr.ownsRow wa.heap.size 3 1 (.slice ad jn cap) jn (intCells L) := by have := HR.out.2.1; rw [← HN.out] at this; exact this
                have hsz := HR.out.1.size
                go_wp2_with (at_builtin; refine wpList_append_lies _ rfl _ _ 67 rfl wa.heap.size 3 i0 _ 1 8 Try.underlying67 hi0 hz0' hz1 hz2 rfl (by decide) _ jn (intCells L) rfl ?c0 ⟨wr.heap.size, 0, none⟩ 1 1 [.int .i64 x] rfl rfl ?c1 ?c2 ?c3 ?c4 ?c5 ?c6 (wr.heap.size + 1) ?c7 ?_)
                case c0 => exact hrow.alloc _
                case c2 => first | rfl | (intro u hu; simp at hu; subst hu; rfl) | (simp [Value.oneCell'])
                case c4 => unfold maxLen; omega
                case c5 => omega
                case c6 => first | omega | (simp; omega)
                intro gg cp w1 hown1 hgrow hat hlt1
                have hR : LsRel wa (L ++ [x]) (.slice (some ⟨gg, 0, none⟩) (jn + 1) cp) w1 := LsRel.snoc HR.out HXL.out hx hgrow (by rw [← HN.out]; exact hown1)
                have HRR := Lib.hid hR
                clear hown1 hgrow hat hR hrow
                go_wp2_with fail
                go_roundw
                case rel => exact ⟨k + 1, L ++ [x], by omega, by go_num, by rw [List.length_append, ← HN.out]; simp; omega, HRR.out⟩
                case measure => simp [intOf]; omega
        · have h2' : ¬ (k : Int) < 64 := by omega
          go_wp2_with fail
          go_meet
          exact ⟨L, by rw [← HN.out]; omega, HR.out⟩
      · have h1' : ¬ (k : Int) < len0 := by omega
        go_wp2_with fail
        go_meet
        exact ⟨L, by rw [← HN.out]; omega, HR.out⟩
  case rest =>
    obtain ⟨L, hL64, hrel⟩ := hcut
    have HR := Lib.hid hrel
    obtain ⟨ad, cap, hv, hcell⟩ := hrel.shape
    subst hv
    clear hrel hcell
    obtain ⟨n, hn⟩ : ∃ n, n = L.length := ⟨_, rfl⟩
    have HN := Lib.hid hn
    have hrow : wc.ownsRow wa.heap.size 3 1 (.slice ad n cap) n (intCells L) := by have := HR.out.2.1; rw [← hn] at this; exact this
    have hsz := HR.out.1.size
    have hR0 : LsRel wa L (.slice ad n cap) wc := by have := HR.out; rw [← hn] at this; exact this
    rw [← hn] at hL64 ⊢
    have HR0 := Lib.hid hR0
    have HROW := Lib.hid hrow
    clear HR hn hR0 hrow
    go_upto_if 76 with fail
    go_cut [9] (fun s9 wx => ∃ L : List Nat, 0 < L.length ∧ L.length ≤ 64 ∧ LsRel wa L s9 wx)
    case first =>
      by_cases h0 : n = 0
      · have e0 : ((n : Int) == 0) = true := by simp [h0]
        have hLn : L = [] := List.eq_nil_of_length_eq_zero (by rw [← HN.out]; exact h0)
        have HLN := Lib.hid hLn
        clear h0 hLn
        go_wp2_with (at_builtin; refine wpList_append_lies _ rfl _ _ 67 rfl wa.heap.size 3 i0 _ 1 8 Try.underlying67 hi0 hz0' hz1 hz2 rfl (by decide) _ n (intCells L) rfl ?d0 ⟨wc.heap.size, 0, none⟩ 1 1 [.int .i64 5] rfl rfl ?d1 ?d2 ?d3 ?d4 ?d5 ?d6 (wc.heap.size + 1) ?d7 ?_)
        case d0 => exact HROW.out.alloc _
        try (case d1 => exact World.news_of_block (cs := #[.int .i64 5]) (t := 3) (fr := (0, 0)) (heap_alloc_new wc _))
        try (case d3 => omega)
        try (case d7 => simp)
        case d2 => first | rfl | (intro u hu; simp at hu; subst hu; rfl) | (simp [Value.oneCell'])
        case d4 => unfold maxLen; omega
        case d5 => omega
        case d6 => first | omega | (simp; omega)
        intro gg cp w1 hown1 hgrow hat hlt1
        have hR : LsRel wa (L ++ [5]) (.slice (some ⟨gg, 0, none⟩) (n + 1) cp) w1 := LsRel.snoc HR0.out (by rw [HLN.out]; simp) (by omega) hgrow (by rw [← HN.out]; exact hown1)
        have HRR := Lib.hid hR
        clear hown1 hgrow hat hR
        go_wp2_with fail
        go_meet
        exact ⟨L ++ [5], by simp, by rw [HLN.out]; simp, HRR.out⟩
      · have e0 : ((n : Int) == 0) = false := by simp; omega
        go_wp2_with fail
        go_meet
        exact ⟨L, by rw [← HN.out]; omega, by rw [← HN.out]; omega, HR0.out⟩
    case rest =>
      clear HROW HR0 HN
      obtain ⟨L, hpos, hL64, hrel⟩ := hcut
      have HR := Lib.hid hrel
      obtain ⟨g, cap, hv, hg1, hg2, hcl, hcell⟩ := hrel.row hpos
      subst hv
      have hbel := hrel.1
      have hnd := hrel.2.2.1
      have h8 := hrel.2.2.2
      clear hrel ad
      obtain ⟨n, hn⟩ : ∃ n, n = L.length := ⟨_, rfl⟩
      rw [← hn] at hpos hL64 hcl hcell ⊢
      have HN := Lib.hid hn
      have HCELL := Lib.hid hcell
      have HND := Lib.hid hnd
      have H8 := Lib.hid h8
      have HW := Lib.hid (HH.out.new (Mv.of_below hbel) hg1 hg2)
      obtain ⟨hb, hhb⟩ : ∃ hb : Nat → Bool, hb = fun l => decide (l < len1) && B l := ⟨_, rfl⟩
      have HHB := Lib.hid hhb
      clear hn hcell hnd h8 hbel HH HZa HBa HZ hhb
      go_wp2_with fail
      go_loopw [14, 15] (fun want i wr => ∃ (k : Nat) (N : Nt) (s : Nat), k ≤ n ∧ s ≤ k ∧ i = .int .i64 k ∧ want = .int .i64 (wantI hb (L.take k)) ∧ Many N s 0 (bOf hb (L.take k)) ∧ Holds w A N [g] wr ∧ ∀ j, j < n → wr.cell? ⟨g, j, none⟩ = some (.int .i64 (L.getD j 0))) (fun _ i _ => n - (intOf i).toNat)
      case atStart => exact ⟨0, _, 0, Nat.zero_le _, Nat.le_refl _, rfl, rfl, by rw [List.take_zero, bOf_nil]; exact Many.start, HW.out, HCELL.out⟩
      case round =>
        obtain ⟨k, N, s, hk, hs, rfl, rfl, hM, hQ, hcl2⟩ := hrel
        have HM := Lib.hid hM
        have HQ := Lib.hid hQ
        have HC2 := Lib.hid hcl2
        clear hM hQ hcl2
        obtain ⟨u, hu⟩ : ∃ u, u = wantI hb (L.take k) := ⟨_, rfl⟩
        rw [← hu]
        have HU := Lib.hid hu
        clear hu
        by_cases hlt : k < n
        · have hlt' : (k : Int) < n := by omega
          have hk0 : (0 : Int) ≤ k := by omega
          have hkL : k < L.length := by rw [← HN.out]; exact hlt
          obtain ⟨x, hx⟩ : ∃ x, x = L.getD k 0 := ⟨_, rfl⟩
          have hxc : wr.cell? ⟨g, k, none⟩ = some (.int .i64 x) := by rw [hx]; exact HC2.out k hlt
          have e1 : L.getD k 0 = L[k] := by simp [hkL]
          have hx8 : x < 8 := by rw [hx, e1]; exact H8.out _ (List.getElem_mem _)
          have htk : L.take (k + 1) = L.take k ++ [x] := by rw [List.take_succ_eq_append_getElem hkL, hx, e1]
          have hxn : x ∉ L.take k := by
            rw [hx, e1]
            intro hm
            obtain ⟨j, hj, he⟩ := List.mem_take_iff_getElem.1 hm
            exact List.pairwise_iff_getElem.1 HND.out j k (by omega) hkL (by omega) he
          have HTK := Lib.hid htk
          have HXN := Lib.hid hxn
          clear hx e1 htk hxn hkL
          by_cases hx1 : x < len1
          · have hx1' : (x : Int) < len1 := by omega
            have hx0 : (0 : Int) ≤ x := by omega
            obtain ⟨bb, boff, rfl, hbc⟩ := (HBB.out.still HQ.out.below) x hx1
            obtain ⟨bx, hbx⟩ : ∃ bx, bx = B x := ⟨_, rfl⟩
            have hbc' : wr.cell? ⟨bb, boff + x, none⟩ = some (.bool bx) := by rw [hbx]; exact hbc
            clear hbc
            have hhx : hb x = bx := by rw [HHB.out, hbx]; simp [hx1]
            have HHX := Lib.hid hhx
            clear hhx hbx
            cases bx
            · go_wp2_with fail
              go_roundw
              case rel => exact ⟨k + 1, N, s, by omega, by omega, by go_num, by rw [HTK.out, wantI_no HHX.out, ← HU.out], by rw [HTK.out, bOf_no HHX.out]; exact HM.out, HQ.out, HC2.out⟩
              case measure => simp [intOf]; omega
            · go_wp2_with fail
              have hw8 : IntKind.u8.wrap (x : Int) = x := IntWalk.u8_in _ (by omega)
              have hxnl : x < N.nl := by rw [HM.out.nl]; exact hx8
              go_region_held3 (fun w' => w'.cell? ⟨g, k, none⟩ = some (.int .i64 x))
                (go_keep)
                (first
                  | (go_at_call 18; refine (HQ.out.sendLit (by first | exact ((Mv.refl _ _).drew).alloc _ | exact ((Mv.refl _ _).alloc _).drew | exact (Mv.refl _ _).alloc _) (by simp) (by first | exact heap_alloc_new _ _ | simpa using heap_alloc_new wr _) (HM.out.fit (by omega) (by omega)) x hxnl (HM.out.closed x)).mono ?_; rintro e w'' ⟨rfl, hHc, hkc⟩; have q1 : w''.cell? ⟨g, k, none⟩ = some (.int .i64 x) := Holds.cell hkc (by simp) hxc; have HHc := Lib.hid hHc; have HKc := Lib.hid hkc; clear hHc hkc))
              have hM2 : Many (N.send x [(x : Int)]) (s + 1) 0 (bOf hb (L.take k ++ [x])) := by
                have := HM.out.send x [(x : Int)] (bOf_len _ _ _)
                rw [bOf_yes HXN.out HHX.out] at this
                exact this
              have HM2 := Lib.hid hM2
              have hcl3 : ∀ j, j < n → w''.cell? ⟨g, j, none⟩ = some (.int .i64 (L.getD j 0)) := fun j hj => Holds.cell HKc.out (by simp) (HC2.out j hj)
              have HC3 := Lib.hid hcl3
              clear hM2 hcl3
              by_cases hu0 : u < 0
              · go_wp2_with (first
                  | (go_at_call 13; refine (num_any _ _).mono ?_; rintro r w' ⟨rfl, rfl⟩))
                go_roundw
                case rel => exact ⟨k + 1, _, s + 1, by omega, by omega, by go_num, by rw [HTK.out, wantI_new (by rw [← HU.out]; exact hu0) HHX.out], by rw [HTK.out]; exact HM2.out, HHc.out, HC3.out⟩
                case measure => simp [intOf]; omega
              · go_wp2_with (first
                  | (go_at_call 13; refine (num_any _ _).mono ?_; rintro r w' ⟨rfl, rfl⟩))
                go_roundw
                case rel => exact ⟨k + 1, _, s + 1, by omega, by omega, by go_num, by rw [HTK.out, wantI_old (by rw [← HU.out]; omega), ← HU.out], by rw [HTK.out]; exact HM2.out, HHc.out, HC3.out⟩
                case measure => simp [intOf]; omega
          · have hx1' : ¬ (x : Int) < len1 := by omega
            have hhx : hb x = false := by rw [HHB.out]; simp; intro h; omega
            have HHX := Lib.hid hhx
            clear hhx
            go_wp2_with fail
            go_roundw
            case rel => exact ⟨k + 1, N, s, by omega, by omega, by go_num, by rw [HTK.out, wantI_no HHX.out, ← HU.out], by rw [HTK.out, bOf_no HHX.out]; exact HM.out, HQ.out, HC2.out⟩
            case measure => simp [intOf]; omega
        · obtain rfl : k = n := by omega
          have hne : L ≠ [] := by intro h; have := HN.out; rw [h] at this; simp at this; omega
          obtain ⟨l0, L', hLL⟩ := List.exists_cons_of_ne_nil hne
          have etk : L.take k = L := List.take_of_length_le (by rw [← HN.out]; omega)
          have hM' : Many N s 0 (bOf hb (l0 :: L')) := by have := HM.out; rw [etk, hLL] at this; exact this
          have c0 : wr.cell? ⟨g, 0, none⟩ = some (.int .i64 l0) := by have := HC2.out 0 hpos; rw [hLL] at this; exact this
          have hl0 : l0 < 8 := H8.out l0 (by rw [hLL]; simp)
          have hur := wantI_range (hb := hb) H8.out
          rw [← etk, ← HU.out] at hur
          have hls : ∀ l ∈ L, l < N.nl := fun l hl => by rw [HM.out.nl]; exact H8.out l hl
          have HLS := Lib.hid hls
          have HETK := Lib.hid etk
          have HLL := Lib.hid hLL
          have hnl : N.nl ≤ 64 := by rw [HM.out.nl]; omega
          have hk64 : L.length ≤ 64 := by rw [← HN.out]; exact hL64
          have hk0 : 0 < L.length := by rw [← HN.out]; exact hpos
          have hcl4 : ∀ i, i < L.length → wr.cell? ⟨g, i, none⟩ = some (.int .i64 (L.getD i 0)) := fun i hi => HC2.out i (by rw [HN.out]; exact hi)
          have HC4 := Lib.hid hcl4
          have HNL := Lib.hid hnl
          have HK64 := Lib.hid hk64
          have HK0 := Lib.hid hk0
          have hfp := first_plain hM' t
          rw [← hLL] at hfp
          clear hne etk hM' hls hLL hnl hk64 hk0 hcl4
          rcases hfp with ⟨l, hw1, N', hgo, b', hM2, hb0⟩ | ⟨hw1, N', hgo, b', hM2, hb0⟩
          · obtain rfl : u = (l : Int) := by rw [HU.out, HETK.out]; exact hw1
            have HGO := Lib.hid hgo
            have HM2 := Lib.hid hM2
            have HB0 := Lib.hid hb0
            clear hgo hM2 hb0 hw1
            go_wp2_with (first | (go_at_call 17; refine (HT.out _).mono ?_; rintro r w' ⟨rfl, rfl⟩))
            have hcall := HQ.out.anyM (HM.out.fine (by omega)) t g cap L HLS.out HNL.out HK64.out HK0.out HND.out (by omega) (by simp) HC4.out HGO.out (n := 1) rfl
            rw [← HN.out] at hcall
            refine hcall.mono ?_
            clear hcall
            rintro r wx ⟨g2, c2, rfl, hrow, hHx, hkx⟩
            have d2 := hrow.cell1
            have cx : wx.cell? ⟨g, 0, none⟩ = some (.int .i64 l0) := Holds.cell hkx (by simp) c0
            have hnow : ∀ W, Holds w A N' [g2, g] W → Calls Try.prog 16 #[.pointer (some ⟨A.net, 0, none⟩)] W fun r w' => r = .returned (.int .i64 0) ∧ W = w' := fun W hW => by
              have := hW.now
              rw [HM2.out.now] at this
              exact this
            have HNOW := Lib.hid hnow
            have HHx := Lib.hid hHx
            clear hrow hHx hkx hnow c0
            have hu0 : (0 : Int) ≤ l := by omega
            go_wp2_with (first | (go_at_call 13; refine (num_any _ _).mono ?_; rintro r w' ⟨rfl, rfl⟩) | (go_at_call 16; refine (HNOW.out _ HHx.out).mono ?_; rintro r w' ⟨rfl, rfl⟩))
            refine (HHx.out.sendLit ((Mv.refl _ _).alloc _) (Nat.le_refl _) (heap_alloc_new _ _) (HM2.out.fit (by omega) (by omega)) l0 (by rw [HM2.out.nl]; exact hl0) (HM2.out.closed l0)).mono ?_
            rintro r wy ⟨rfl, hHy, hky⟩
            have hM3 := HM2.out.send l0 [77] (by rw [HB0.out]; simp)
            have hl3 : ((N'.send l0 [77]).lane l0).buf = [[77]] := by rw [hM3.lane l0]; simp [setB, HB0.out]
            have cy : wy.cell? ⟨g, 0, none⟩ = some (.int .i64 l0) := Holds.cell hky (by simp) cx
            have HHy := Lib.hid hHy
            have HM3 := Lib.hid hM3
            have HL3 := Lib.hid hl3
            clear hHy hky hM3 hl3
            have hwt := HHy.out.waiting l0 (by rw [HM3.out.nl]; exact hl0)
            rw [HL3.out, show ((([[(77 : Int)]] : List (List Int)).length : Nat) : Int) = 1 from rfl] at hwt
            go_wp2_with fail
            refine hwt.mono ?_
            clear hwt
            rintro r w' ⟨rfl, rfl⟩
            go_wp2_with (first | (go_at_call 13; refine (num_any _ _).mono ?_; rintro r w' ⟨rfl, rfl⟩))
            refine wp_loop_rounds 1 ?_
            rw [rounds_succ]
            go_wp2_with fail
            have hcall := HHy.out.anyM (HM3.out.fine (by omega)) 0 g cap [l0] (by intro l hl; simp at hl; rw [HM3.out.nl, hl]; exact hl0) (by rw [HM3.out.nl]; omega) (by simp) (by simp) (by simp) (by omega) (by simp) (by intro j hj; obtain rfl : j = 0 := (by simpa using hj); exact cy) (waitGo_has (ms := []) HL3.out) (n := 1) rfl
            refine hcall.mono ?_
            clear hcall
            rintro r wz ⟨g3, c3, rfl, hrow3, hHz, hkz⟩
            have d3 := hrow3.cell1
            have cz : wz.cell? ⟨g, 0, none⟩ = some (.int .i64 l0) := Holds.cell hkz (by simp) cy
            have HHz := Lib.hid hHz
            clear hrow3 hHz hkz
            go_wp2_with (first | (go_at_call 13; refine (num_any _ _).mono ?_; rintro r w' ⟨rfl, rfl⟩))
            go_ret
            exact ⟨rfl, HHz.out.below⟩
          · obtain rfl : u = -1 := by rw [HU.out, HETK.out]; exact hw1
            have HGO := Lib.hid hgo
            have HM2 := Lib.hid hM2
            have HB0 := Lib.hid hb0
            clear hgo hM2 hb0 hw1
            go_wp2_with (first | (go_at_call 17; refine (HT.out _).mono ?_; rintro r w' ⟨rfl, rfl⟩))
            have hcall := HQ.out.anyE (HM.out.fine (by omega)) t g cap L HLS.out HNL.out HK64.out HK0.out HND.out (by omega) (by simp) HC4.out HGO.out
            rw [← HN.out] at hcall
            refine hcall.mono ?_
            clear hcall
            rintro r wx ⟨rfl, hHx, hkx⟩
            have cx : wx.cell? ⟨g, 0, none⟩ = some (.int .i64 l0) := Holds.cell hkx (by simp) c0
            have hnow : ∀ W, Holds w A N' [g] W → Calls Try.prog 16 #[.pointer (some ⟨A.net, 0, none⟩)] W fun r w' => r = .returned (.int .i64 t) ∧ W = w' := fun W hW => by
              have := hW.now
              rw [HM2.out.now] at this
              exact this
            have HNOW := Lib.hid hnow
            have HHx := Lib.hid hHx
            clear hHx hkx hnow c0
            go_wp2_with (first | (go_at_call 13; refine (num_any _ _).mono ?_; rintro r w' ⟨rfl, rfl⟩) | (go_at_call 16; refine (HNOW.out _ HHx.out).mono ?_; rintro r w' ⟨rfl, rfl⟩))
            refine (HHx.out.sendLit ((Mv.refl _ _).alloc _) (Nat.le_refl _) (heap_alloc_new _ _) (HM2.out.fit (by omega) (by omega)) l0 (by rw [HM2.out.nl]; exact hl0) (HM2.out.closed l0)).mono ?_
            rintro r wy ⟨rfl, hHy, hky⟩
            have hM3 := HM2.out.send l0 [77] (by rw [HB0.out]; simp)
            have hl3 : ((N'.send l0 [77]).lane l0).buf = [[77]] := by rw [hM3.lane l0]; simp [setB, HB0.out]
            have cy : wy.cell? ⟨g, 0, none⟩ = some (.int .i64 l0) := Holds.cell hky (by simp) cx
            have HHy := Lib.hid hHy
            have HM3 := Lib.hid hM3
            have HL3 := Lib.hid hl3
            clear hHy hky hM3 hl3
            have hwt := HHy.out.waiting l0 (by rw [HM3.out.nl]; exact hl0)
            rw [HL3.out, show ((([[(77 : Int)]] : List (List Int)).length : Nat) : Int) = 1 from rfl] at hwt
            go_wp2_with fail
            refine hwt.mono ?_
            clear hwt
            rintro r w' ⟨rfl, rfl⟩
            go_wp2_with (first | (go_at_call 13; refine (num_any _ _).mono ?_; rintro r w' ⟨rfl, rfl⟩))
            refine wp_loop_rounds 1 ?_
            rw [rounds_succ]
            go_wp2_with fail
            have hcall := HHy.out.anyM (HM3.out.fine (by omega)) 0 g cap [l0] (by intro l hl; simp at hl; rw [HM3.out.nl, hl]; exact hl0) (by rw [HM3.out.nl]; omega) (by simp) (by simp) (by simp) (by omega) (by simp) (by intro j hj; obtain rfl : j = 0 := (by simpa using hj); exact cy) (waitGo_has (ms := []) HL3.out) (n := 1) rfl
            refine hcall.mono ?_
            clear hcall
            rintro r wz ⟨g3, c3, rfl, hrow3, hHz, hkz⟩
            have d3 := hrow3.cell1
            have cz : wz.cell? ⟨g, 0, none⟩ = some (.int .i64 l0) := Holds.cell hkz (by simp) cy
            have HHz := Lib.hid hHz
            clear hrow3 hHz hkz
            go_wp2_with (first | (go_at_call 13; refine (num_any _ _).mono ?_; rintro r w' ⟨rfl, rfl⟩))
            go_ret
            exact ⟨rfl, HHz.out.below⟩

set_option maxRecDepth 100000 in
theorem lifted (os : Os) (started : os.Started) (H : Type) (enc : TypeId × Value → H) :
    ReturnsInHanded {} Try.checked os 9 .any (Rows.laneAnyFirstSpec.pre6 enc Try.prog Try.f9 Rows.laneAnyFirstRow.domain false) (Rows.laneAnyFirstSpec.post enc Try.prog Try.f9 false true false false) := by
  refine returnsInHanded_of_change (C := Try.checked) own started (by kernel_rfl) Try.func9
    (ChangeSpec.witness6 (enc := enc) (C := Try.checked) false ⟨#[], #[.slice none 0 0, .slice none 0 0, .int .i64 0], []⟩ 8 (by kernel_rfl) (by kernel_rfl) (by kernel_rfl) (by kernel_rfl)) ?_
  intro W base args ds gs before hval0 hW hcnd _
  have hval : ∀ (j : Nat) t v, Try.f9.params[j]? = some t → args[j]? = some v → Value.okWide Try.prog W .any base t v := hval0
  have hW' := hW
  obtain ⟨p, q, hA0, hV, rfl, hfz, hnd⟩ := hW
  have hA : DataW.TrodAll enc Try.prog W 0 (fun _ => true) true Try.f9.params.toList args.toList ds p := hA0
  rw [Try.params9] at hA hval
  obtain ⟨v0, vs0, d0, ds0, p0, q0, hargs, rfl, rfl, h0, r0⟩ := trodAll_cons hA
  obtain ⟨v1, vs1, d1, ds1, p1, q1, rfl, rfl, rfl, h1, r1⟩ := trodAll_cons r0
  obtain ⟨v2, vs2, d2, ds2, p2, q2, rfl, rfl, rfl, h2, r2⟩ := trodAll_cons r1
  obtain ⟨rfl, rfl, rfl⟩ := trodAll_nil r2
  obtain rfl : args = #[v0, v1, v2] := by cases args; simp_all
  obtain ⟨rfl, rfl⟩ := trodVars_none hV
  obtain ⟨a0, len0, cap0, rfl⟩ := okWide_slice Try.underlying67 (hval 0 67 v0 rfl rfl)
  obtain ⟨a1, len1, cap1, rfl⟩ := okWide_slice Try.underlying68 (hval 1 68 v1 rfl rfl)
  obtain ⟨a2, rfl, rfl, rfl, w2⟩ := open_int Try.underlying3 (hval 2 3 v2 rfl rfl) h2
  have k0 := h0
  have k1 := h1
  have lt0 : ∀ x ∈ p0, x.block < W.heap.size := by obtain ⟨m, hm⟩ := k0; exact DataW.trod_lt m _ _ _ hm
  have lt1 : ∀ x ∈ p1, x.block < W.heap.size := by obtain ⟨m, hm⟩ := k1; exact DataW.trod_lt m _ _ _ hm
  obtain ⟨z, hz, hz0⟩ : ∃ z : Nat → Int, ElIn W a0 len0 (fun i => .int .i64 (z i)) ∧ len0 ≤ maxLen := by
    obtain ⟨fuel, hf⟩ := h0
    rcases open_ints Try.underlying67 Try.underlying3 (by kernel_rfl) hf with ⟨hcs, _⟩ | ⟨x, l, c, zs, hcs, _, hl, hm, hz, _, hcell, hwz⟩
    · simp [Value.cells] at hcs
      obtain ⟨rfl, rfl, rfl⟩ := hcs
      exact ⟨fun _ => 0, fun i hi => by omega, by unfold maxLen; omega⟩
    · simp [Value.cells] at hcs
      obtain ⟨rfl, rfl, rfl⟩ := hcs
      have hzl : zs.length = cap0 := by simpa using hz
      by_cases hl0 : len0 = 0
      · subst hl0
        exact ⟨fun _ => 0, fun i hi => by omega, by omega⟩
      · obtain ⟨b, off, rfl, hcc⟩ := ints_at hcell (by omega)
        exact ⟨fun i => zs.getD i 0, fun i hi => ⟨b, off, rfl, hcc i (by omega)⟩, by omega⟩
  obtain ⟨B, hB, hB0⟩ : ∃ B : Nat → Bool, ElIn W a1 len1 (fun i => .bool (B i)) ∧ len1 ≤ maxLen := by
    obtain ⟨fuel, hf⟩ := h1
    rcases Go.Deep.open_bools Try.underlying68 Try.underlying4 (by kernel_rfl) hf with ⟨hcs, _⟩ | ⟨x, l, c, B, hcs, _, hl, hm, _, hcell⟩
    · simp [Value.cells] at hcs
      obtain ⟨rfl, rfl, rfl⟩ := hcs
      exact ⟨fun _ => false, fun i hi => by omega, by unfold maxLen; omega⟩
    · simp [Value.cells] at hcs
      obtain ⟨rfl, rfl, rfl⟩ := hcs
      refine ⟨B, fun i hi => ?_, by omega⟩
      have hci := hcell i (by omega)
      have hs : x.spot = none := by
        cases hsp : x.spot with
        | none => rfl
        | some y => have := hcell 0 (by omega); unfold World.cell? Addr.add at this; simp [hsp] at this; split at this <;> simp at this
      obtain ⟨xb, xo, xs⟩ := x
      simp only at hs
      subst hs
      refine ⟨xb, xo, rfl, ?_⟩
      have e1 : (⟨xb, xo, none⟩ : Addr).add i = ⟨xb, xo + i, none⟩ := by unfold Addr.add; split <;> simp_all
      rw [← e1]; exact hci
  clear hA0 hval0
  refine (walk a0 len0 cap0 z a1 len1 cap1 B a2 W w2 hz hz0 hB hB0).mono fun e W' ⟨he, bel⟩ => ?_
  subst he
  exact ⟨_, rfl, _, _, _, [], _, [], hW', trodAll_mk1 (shut_bool Try.underlying4 _), (trodAll_cons_mk (Below.trod laidOut (by kernel_rfl) (of_decide_eq_true (by kernel_rfl)) k0 bel lt0) (trodAll_cons_mk (Below.trod laidOut (by kernel_rfl) (of_decide_eq_true (by kernel_rfl)) k1 bel lt1) (trodAll_cons_mk (shut_int Try.underlying3 w2) trodAll_mk0))), rfl, bel.frame _, fun h => by cases h⟩

theorem over : Rows.laneAnyFirstRow.holds Try.pinned (OpenSpec.ofChange Rows.laneAnyFirstSpec) :=
  OpenClaim.holds_of_wide 9 Try.f9 rfl rfl rfl rfl rfl rfl rfl ⟨rfl, rfl, rfl, rfl, rfl⟩ rfl rfl rfl rfl rfl (by kernel_rfl) Try.func9 (by kernel_rfl)
    (of_decide_eq_true (by kernel_rfl)) (by unfold Func.isWrapper; first | (rw [if_pos (by decide +kernel)]; kernel_rfl) | (rw [if_neg (by decide +kernel)]; exact ⟨rfl, rfl⟩))
    (fun os started H enc _ => lifted os started H enc)

theorem proved : Rows.LaneAnyFirstSaid := over
#print axioms proved
end Go.Proofs.Ytadalodjnbnjkaa.laneAnyFirst
