/- The document's net: take, over. -/
import Derived.Test.YtadalodjnbnjkaaPlay16
import Derived.Test.YtadalodjnbnjkaaPlay17
import Derived.Deep.QuietTactic
import Derived.BigQuiet
import Derived.BigRegion
import Derived.Deep.CutBlock
import Derived.Deep.DeepCutAuto
namespace Go.Proofs.Ytadalodjnbnjkaa
open Go.RowKit Go.Conc

/-- The lanes that are asked. -/
def LanesIn (w : World) (a : Option Addr) (ls : List Nat) : Prop := ls = [] ∨ ∃ b off, a = some ⟨b, off, none⟩ ∧ ∀ j, j < ls.length → w.cell? ⟨b, off + j, none⟩ = some (.int .i64 (ls.getD j 0))
theorem LanesIn.still {w w' : World} {a : Option Addr} {ls : List Nat} (h : LanesIn w a ls) (hk : ∀ ad, ls ≠ [] → a = some ad → w'.heap[ad.block]? = w.heap[ad.block]?) : LanesIn w' a ls := by
  rcases h with h | ⟨b, off, rfl, hc⟩
  · exact .inl h
  · by_cases h0 : ls = []
    · exact .inl h0
    · exact .inr ⟨b, off, rfl, fun j hj => (World.cell?_of_block (w := w) (a := ⟨b, off + j, none⟩) (hk ⟨b, off, none⟩ h0 rfl)).trans (hc j hj)⟩
def Rf.fst (R : Rf) (ls : List Nat) : Option Nat := ls.find? fun l => !(R.waits l).isEmpty

/-- A message is taken off a lane. -/
theorem RParts.taken {w w1 : World} {own : ROwn} {G l : Nat} {R : Rf} {fv : Value} {wb wcap sb scap : Nat} {lv : Value} {cur : Array Value} (h : RParts w own G R fv wb wcap sb scap lv cur) {b off off' cap' : Nat} {bc : Array Value} {m : List Int} {ms : List (List Int)}
    (hw : R.waits l = m :: ms) (hb : own b = some (.wl l)) (hbc : w.heap[b]? = some (.cells bc 47 (0, 0))) (hr : ∀ j m, (R.waits l)[j]? = some m → ∃ u, bc[off + j]? = some u ∧ DatIs w own u m) (hle : ms.length ≤ cap') (hcap : off' + cap' ≤ bc.size) (hoff : ms ≠ [] → off' = off + 1) (hm : Mv (fun _ => False) w w1) :
    RefIs (w1.setCell ⟨wb, l, none⟩ (.slice (some ⟨b, off', none⟩) ms.length cap')) own G (R.setW l ms) ∧ Mv own.may w (w1.setCell ⟨wb, l, none⟩ (.slice (some ⟨b, off', none⟩) ms.length cap')) := by
  have hbw : b ≠ wb := fun e => by rw [e, h.warr] at hb; cases hb
  have hm2 : Mv own.may w (w1.setCell ⟨wb, l, none⟩ (.slice (some ⟨b, off', none⟩) ms.length cap')) := Mv.setCell (hm.mono fun _ _ hh => hh.elim) (.inl ⟨by rw [h.warr]; simp, by rw [h.warr]; simp⟩) _
  have hoth : ∀ k, k < w.heap.size → k ≠ wb → (w1.setCell ⟨wb, l, none⟩ (.slice (some ⟨b, off', none⟩) ms.length cap')).heap[k]? = w.heap[k]? := fun k hk h2 => by
    rw [heap_setCell_other h2]; exact hm.block k hk id
  refine ⟨h.turn (own' := own) l _ ms (h.lies.mono hm2.size) (fun k t hk _ h2 => ⟨hk, hoth k (h.lies k t hk) h2⟩) h.warr (heap_setCell_same ((hm.block wb (lt_of_heap h.arr) id).trans h.arr) _) (.inr ⟨b, off', cap', bc, rfl, hb, (hoth b (lt_of_heap hbc) hbw).trans hbc, hle, hcap, fun j x hj => ?_⟩), hm2⟩
  obtain ⟨u, q1, q2⟩ := hr (j + 1) x (by rw [hw]; exact hj)
  have hne : ms ≠ [] := fun e => by rw [e] at hj; simp at hj
  refine ⟨u, by rw [hoff hne, show off + 1 + j = off + (j + 1) by omega]; exact q1, q2.keep fun k hk => ⟨hk, hoth k (h.lies k _ hk) (fun e => by rw [e, h.warr] at hk; cases hk)⟩⟩

/-- What take leaves. -/
def Took (w : World) (own : ROwn) (G : Nat) (R : Rf) (ls : List Nat) (e : Ending) (w' : World) : Prop :=
  match R.fst ls with
  | none => e = .returned (.tuple #[.int .i64 (-1), .slice none 0 0]) ∧ Mv (fun _ => False) w w'
  | some l => ∃ u m ms, R.waits l = m :: ms ∧ e = .returned (.tuple #[.int .i64 l, u]) ∧ RefIs w' own G (R.setW l ms) ∧ DatIs w' own u m ∧ Mv own.may w w'
theorem fst_take {R : Rf} {ls : List Nat} {k l : Nat} (hk : k < ls.length) (hl : ls.getD k 0 = l) (h : ∀ x ∈ ls.take k, R.waits x = []) (hne : R.waits l ≠ []) : R.fst ls = some l := by
  have e : ls = ls.take k ++ l :: ls.drop (k + 1) := by
    have h1 := List.drop_eq_getElem_cons hk
    have h2 : ls[k] = l := by rw [← hl, List.getD_eq_getElem?_getD, List.getElem?_eq_getElem hk]; rfl
    rw [h2] at h1
    rw [← h1, List.take_append_drop]
  unfold Rf.fst
  rw [e, List.find?_append]
  have h3 : (ls.take k).find? (fun l => !(R.waits l).isEmpty) = none := by
    rw [List.find?_eq_none]
    intro x hx
    rw [h x hx]; simp
  rw [h3]
  cases hw : R.waits l with
  | nil => exact absurd hw hne
  | cons m ms => simp [hw]
theorem fst_none {R : Rf} {ls : List Nat} (h : ∀ x ∈ ls, R.waits x = []) : R.fst ls = none := by
  unfold Rf.fst
  rw [List.find?_eq_none]
  intro x hx
  rw [h x hx]; simp

set_option maxRecDepth 100000 in
set_option maxHeartbeats 1600000 in
theorem rtake_any (w : World) (own : ROwn) (G : Nat) (R : Rf) (a : Option Addr) (c : Nat) (ls : List Nat) (h : RefIs w own G R) (hls : ∀ l ∈ ls, l < R.nl) (hlen : ls.length ≤ 64) (hin : LanesIn w a ls) (hfree : ∀ ad, ls ≠ [] → a = some ad → own ad.block = none) :
    Calls Try.prog 68 #[.pointer (some ⟨G, 0, none⟩), .slice a ls.length c] w (Took w own G R ls) := by
  have H := Lib.hid h
  have HLS := Lib.hid hls
  have HIN := Lib.hid hin
  have HFREE := Lib.hid hfree
  obtain ⟨n, hn⟩ : ∃ n, n = ls.length := ⟨_, rfl⟩
  rw [← hn] at hlen ⊢
  have HN := Lib.hid hn
  clear h hls hin hn hfree
  go_enter Try.func68, Try.ntmps68
  go_wp2_with fail
  go_loopw [6] (fun i wr => ∃ (k : Nat), k ≤ n ∧ i = .int .i64 k ∧ Mv (fun _ => False) w wr ∧ ∀ x ∈ ls.take k, R.waits x = []) (fun i _ => n - (intOf i).toNat)
  case atStart => exact ⟨0, Nat.zero_le _, rfl, Mv.refl _ _, fun x hx => by simp at hx⟩
  case round =>
    obtain ⟨k, hk, rfl, hmw, hrel⟩ := hrel
    have HMW := Lib.hid hmw
    have HR := Lib.hid hrel
    clear hrel
    by_cases hlt : k < n
    · have hkk : (k : Int) < n := by omega
      have hk0 : (0 : Int) ≤ k := by omega
      have hkl : k < ls.length := by rw [← HN.out]; exact hlt
      obtain ⟨b, off, rfl, hc⟩ := HIN.out.resolve_left (fun e => by rw [e] at hkl; simp at hkl)
      have hcell := hc k hkl
      have hcell := (hmw.cell (p := ⟨b, off + k, none⟩) (World.block_lt_of_cell? _ _ hcell) id).trans hcell
      obtain ⟨l, hl⟩ : ∃ l, l = ls.getD k 0 := ⟨_, rfl⟩
      rw [← hl] at hcell
      have hlm : l ∈ ls := by
        rw [hl, List.getD_eq_getElem?_getD, List.getElem?_eq_getElem hkl]
        exact List.getElem_mem hkl
      have hlnl := HLS.out l hlm
      obtain ⟨fv, wb, wcap, sb, scap, lv, cur, hp⟩ := (H.out.still hmw).parts
      have c3 := hp.cell3
      obtain ⟨u, hu, hw⟩ := hp.wl l hlnl
      have cw : wr.cell? ⟨wb, l, none⟩ = some u := cell_of_heap hp.arr l hu
      have cf : wr.frozen? ⟨wb, l, none⟩ = false := free_of_heap hp.arr l
      obtain ⟨nl, hnl2⟩ : ∃ v, v = R.nl := ⟨_, rfl⟩
      rw [← hnl2] at c3 hlnl
      have hll : (l : Int) < nl := by omega
      have hl0 : (0 : Int) ≤ l := by omega
      have HP := Lib.hid hp
      have HL := Lib.hid hl
      have HKL := Lib.hid hkl
      clear hc hl hkl hp hnl2 hlm hmw
      rcases hw with ⟨rfl, hnil⟩ | ⟨bb, boff, bcap, bc, rfl, hb, hbc, hle, hcap, hr⟩
      · have HNIL := Lib.hid hnil
        clear hnil hu
        go_wp2_with fail
        go_quiet (fail)
        go_wp2_with fail
        have hstep : ∀ x ∈ ls.take (k + 1), R.waits x = [] := fun x hx => by
          rw [List.take_succ_eq_append_getElem HKL.out] at hx
          simp only [List.mem_append, List.mem_singleton] at hx
          rcases hx with hx | rfl
          · exact HR.out x hx
          · have : ls[k]'HKL.out = l := by rw [HL.out, List.getD_eq_getElem?_getD, List.getElem?_eq_getElem HKL.out]; rfl
            rw [this]; exact HNIL.out
        have HSTEP := Lib.hid hstep
        clear hstep
        go_roundw
        case rel => exact ⟨k + 1, by omega, by go_num, HMW.out.drewN _, HSTEP.out⟩
        case measure => simp [intOf]; omega
      · have hb3 : wr.cell? ⟨bb, boff, none⟩ = wr.cell? ⟨bb, boff, none⟩ := rfl
        have HB := Lib.hid hb
        have HBC := Lib.hid hbc
        have HRR := Lib.hid hr
        obtain ⟨W, hW⟩ : ∃ W, W = R.waits l := ⟨_, rfl⟩
        rw [← hW] at cw hle HRR
        have HW := Lib.hid hW
        clear hb hbc hr hW hu hb3
        cases W with
        | nil =>
          have hstep : ∀ x ∈ ls.take (k + 1), R.waits x = [] := fun x hx => by
            rw [List.take_succ_eq_append_getElem HKL.out] at hx
            simp only [List.mem_append, List.mem_singleton] at hx
            rcases hx with hx | rfl
            · exact HR.out x hx
            · have : ls[k]'HKL.out = l := by rw [HL.out, List.getD_eq_getElem?_getD, List.getElem?_eq_getElem HKL.out]; rfl
              rw [this]; exact HW.out.symm
          have HSTEP := Lib.hid hstep
          clear hstep
          go_wp2_with fail
          go_quiet (fail)
          go_wp2_with fail
          go_roundw
          case rel => exact ⟨k + 1, by omega, by go_num, HMW.out.drewN _, HSTEP.out⟩
          case measure => simp [intOf]; omega
        | cons m ms =>
          obtain ⟨u, hu0, hud⟩ := HRR.out 0 m rfl
          have hu1 : wr.cell? ⟨bb, boff, none⟩ = some u := cell_of_heap HBC.out boff hu0
          have HUD := Lib.hid hud
          obtain ⟨ua, uc, rfl, _⟩ := hud
          obtain ⟨un, hun⟩ : ∃ v, v = m.length := ⟨_, rfl⟩
          rw [← hun] at hu1 HUD
          obtain ⟨ml, hml⟩ : ∃ v, v = ms.length := ⟨_, rfl⟩
          have HML := Lib.hid hml
          have ecw : wr.cell? ⟨wb, l, none⟩ = some (.slice (some ⟨bb, boff, none⟩) (ml + 1) bcap) := by rw [cw, hml]; rfl
          have hle2 : ml + 1 ≤ bcap := by rw [hml]; exact hle
          clear hu0 hun cw hml hle
          have hml0 : decide ((ml : Int) + 1 > 0) = true := decide_eq_true (by omega)
          go_wp2_with fail
          go_quiet (fail)
          go_wp2_with fail
          have hbW : bb ≠ wb := fun e => by have h1 := HB.out; rw [e, HP.out.warr] at h1; cases h1
          have hbW2 : wb ≠ bb := Ne.symm hbW
          have hbL : b ≠ wb := fun e => by have h1 := HFREE.out ⟨b, off, none⟩ (fun e => by have := HKL.out; rw [e] at this; simp at this) rfl; rw [show (⟨b, off, none⟩ : Addr).block = b from rfl, e, HP.out.warr] at h1; cases h1
          have hm1 : (1 : Int) ≤ (ml : Int) + 1 := by omega
          have hm2 : (0 : Int) < (ml : Int) + 1 := by omega
          have hfst : R.fst ls = some l := fst_take HKL.out HL.out.symm HR.out (by rw [← HW.out]; simp)
          have HFST := Lib.hid hfst
          clear hfst
          by_cases hc1 : bcap = 1
          · obtain rfl : ml = 0 := by omega
            subst hc1
            have htk : ∀ w1, Mv (fun _ => False) wr w1 → RefIs (w1.setCell ⟨wb, l, none⟩ (.slice (some ⟨bb, boff, none⟩) 0 0)) own G (R.setW l ms) ∧ Mv own.may wr (w1.setCell ⟨wb, l, none⟩ (.slice (some ⟨bb, boff, none⟩) 0 0)) := fun w1 hw1 => by
              have := HP.out.taken (l := l) (m := m) (ms := ms) (off := boff) (off' := boff) (cap' := 0) HW.out.symm HB.out HBC.out (fun j m hj => HRR.out j m (by rw [HW.out]; exact hj)) (by rw [← HML.out]; omega) (by omega) (fun hne => absurd (List.eq_nil_of_length_eq_zero HML.out.symm) hne) hw1
              rw [← HML.out] at this
              exact this
            have HTK := Lib.hid htk
            clear htk
            go_region
            go_wp2_with fail
            go_upto_region 7 with fail
            go_quiet (fail)
            go_wp2_with fail
            go_ret2
            unfold Took
            rw [HFST.out]
            have hA : Mv own.may w wr := HMW.out.mono (G := own.may) (fun _ _ h => h.elim)
            have key : ∀ d e, RefIs (((wr.drewN d).setCell ⟨wb, l, none⟩ (.slice (some ⟨bb, boff, none⟩) 0 0)).drewN e) own G (R.setW l ms) ∧ Mv own.may w (((wr.drewN d).setCell ⟨wb, l, none⟩ (.slice (some ⟨bb, boff, none⟩) 0 0)).drewN e) := fun d e => by
              obtain ⟨q1, q2⟩ := HTK.out (wr.drewN d) ((Mv.refl _ _).drewN d)
              exact ⟨q1.still ((Mv.refl _ _).drewN e), (hA.trans' q2 (fun _ _ h => h)).trans' (G := fun _ => False) ((Mv.refl _ _).drewN e) (fun _ _ h => h.elim)⟩
            exact ⟨_, m, ms, HW.out.symm, rfl, (key _ _).1, (HUD.out.keep (own' := own) fun b hb => ⟨hb, (heap_setCell_other (fun e => by rw [e, HP.out.warr] at hb; cases hb) _)⟩), (key _ _).2⟩
          · have hc2 : (1 : Int) < bcap := by omega
            have hc3 : (1 : Int) ≤ bcap := by omega
            have hc4 : (ml : Int) + 1 ≤ bcap := by omega
            have hc5 : ¬ (1 = bcap) := by omega
            have htk : ∀ w1, Mv (fun _ => False) wr w1 → RefIs (w1.setCell ⟨wb, l, none⟩ (.slice (some ⟨bb, boff + 1, none⟩) ml (bcap - 1))) own G (R.setW l ms) ∧ Mv own.may wr (w1.setCell ⟨wb, l, none⟩ (.slice (some ⟨bb, boff + 1, none⟩) ml (bcap - 1))) := fun w1 hw1 => by
              have := HP.out.taken (l := l) (m := m) (ms := ms) (off := boff) (off' := boff + 1) (cap' := bcap - 1) HW.out.symm HB.out HBC.out (fun j m hj => HRR.out j m (by rw [HW.out]; exact hj)) (by rw [← HML.out]; omega) (by omega) (fun _ => rfl) hw1
              rw [← HML.out] at this
              exact this
            have HTK := Lib.hid htk
            clear htk
            go_region
            go_wp2_with fail
            go_upto_region 7 with fail
            go_quiet (fail)
            go_wp2_with fail
            go_ret2
            unfold Took
            rw [HFST.out]
            have hA : Mv own.may w wr := HMW.out.mono (G := own.may) (fun _ _ h => h.elim)
            have key : ∀ d e, RefIs (((wr.drewN d).setCell ⟨wb, l, none⟩ (.slice (some ⟨bb, boff + 1, none⟩) ml (bcap - 1))).drewN e) own G (R.setW l ms) ∧ Mv own.may w (((wr.drewN d).setCell ⟨wb, l, none⟩ (.slice (some ⟨bb, boff + 1, none⟩) ml (bcap - 1))).drewN e) := fun d e => by
              obtain ⟨q1, q2⟩ := HTK.out (wr.drewN d) ((Mv.refl _ _).drewN d)
              exact ⟨q1.still ((Mv.refl _ _).drewN e), (hA.trans' q2 (fun _ _ h => h)).trans' (G := fun _ => False) ((Mv.refl _ _).drewN e) (fun _ _ h => h.elim)⟩
            exact ⟨_, m, ms, HW.out.symm, rfl, (key _ _).1, (HUD.out.keep (own' := own) fun b hb => ⟨hb, (heap_setCell_other (fun e => by rw [e, HP.out.warr] at hb; cases hb) _)⟩), (key _ _).2⟩
    · have hge : ¬ (k : Int) < n := by omega
      obtain rfl : k = n := by omega
      have hall : ∀ x ∈ ls, R.waits x = [] := by
        have := HR.out
        rw [List.take_of_length_le (by rw [← HN.out]; omega)] at this
        exact this
      go_wp2_with fail
      go_ret2
      unfold Took
      rw [fst_none hall]
      exact ⟨rfl, HMW.out⟩
end Go.Proofs.Ytadalodjnbnjkaa

/- The document's net: over. -/
namespace Go.Proofs.Ytadalodjnbnjkaa
open Go.RowKit Go.Conc

def noLate (L : List Ml) (l : Nat) : Bool := L.all fun x => x.lane != l
def Rf.overL (R : Rf) (l : Nat) : Bool := R.shut l && noLate R.lates l
def Rf.over (R : Rf) (ls : List Nat) : Bool := ls.all fun l => R.overL l
/-- What a call that reads leaves. -/
def ReadB (w : World) (b : Bool) (e : Ending) (w' : World) : Prop := e = .returned (.bool b) ∧ Mv (fun _ => False) w w'
theorem over_bad {R : Rf} {ls : List Nat} {k l : Nat} (hk : k < ls.length) (hl : ls.getD k 0 = l) (h : R.overL l = false) : R.over ls = false := by
  unfold Rf.over
  rw [List.all_eq_false]
  refine ⟨l, ?_, by rw [h]; simp⟩
  rw [← hl, List.getD_eq_getElem?_getD, List.getElem?_eq_getElem hk]
  exact List.getElem_mem hk

set_option maxRecDepth 100000 in
set_option maxHeartbeats 1600000 in
theorem rover_any (w : World) (own : ROwn) (G : Nat) (R : Rf) (a : Option Addr) (c : Nat) (ls : List Nat) (h : RefIs w own G R) (hls : ∀ l ∈ ls, l < R.nl) (hlen : ls.length ≤ 64) (hL : R.lates.length < 549755813888) (hin : LanesIn w a ls) :
    Calls Try.prog 69 #[.pointer (some ⟨G, 0, none⟩), .slice a ls.length c] w (ReadB w (R.over ls)) := by
  have H := Lib.hid h
  have HLS := Lib.hid hls
  have HIN := Lib.hid hin
  obtain ⟨n, hn⟩ : ∃ n, n = ls.length := ⟨_, rfl⟩
  rw [← hn] at hlen ⊢
  have HN := Lib.hid hn
  obtain ⟨ll, hll⟩ : ∃ n, n = R.lates.length := ⟨_, rfl⟩
  rw [← hll] at hL
  have HLL := Lib.hid hll
  clear h hls hin hn hll
  go_enter Try.func69, Try.ntmps69
  go_wp2_with fail
  go_loopw [5] (fun i wr => ∃ k : Nat, k ≤ n ∧ i = .int .i64 k ∧ Mv (fun _ => False) w wr ∧ ∀ x ∈ ls.take k, R.overL x = true) (fun i _ => n - (intOf i).toNat)
  case atStart => exact ⟨0, Nat.zero_le _, rfl, Mv.refl _ _, fun x hx => by simp at hx⟩
  case round =>
    obtain ⟨k, hk, rfl, hmw, hrel⟩ := hrel
    have HMW := Lib.hid hmw
    have HR := Lib.hid hrel
    clear hrel
    by_cases hlt : k < n
    · have hkk : (k : Int) < n := by omega
      have hk0 : (0 : Int) ≤ k := by omega
      have hkl : k < ls.length := by rw [← HN.out]; exact hlt
      obtain ⟨b, off, rfl, hc⟩ := HIN.out.resolve_left (fun e => by rw [e] at hkl; simp at hkl)
      have hcell := hc k hkl
      have hbl := World.block_lt_of_cell? _ _ hcell
      have HCELL0 := Lib.hid hcell
      have hcell := (hmw.cell (p := ⟨b, off + k, none⟩) hbl id).trans hcell
      obtain ⟨l, hl⟩ : ∃ l, l = ls.getD k 0 := ⟨_, rfl⟩
      rw [← hl] at hcell HCELL0
      have hlm : l ∈ ls := by
        rw [hl, List.getD_eq_getElem?_getD, List.getElem?_eq_getElem hkl]
        exact List.getElem_mem hkl
      have hlnl := HLS.out l hlm
      obtain ⟨sb, scap, c4, cs⟩ := (H.out.still hmw).shutCell hlnl
      obtain ⟨nl, hnl2⟩ : ∃ v, v = R.nl := ⟨_, rfl⟩
      rw [← hnl2] at c4 hlnl
      obtain ⟨sh, hsh⟩ : ∃ v, v = R.shut l := ⟨_, rfl⟩
      rw [← hsh] at cs
      have HSH := Lib.hid hsh
      have hll : (l : Int) < nl := by omega
      have hl0 : (0 : Int) ≤ l := by omega
      have HL := Lib.hid hl
      have HKL := Lib.hid hkl
      clear hc hl hkl hnl2 hlm hmw hsh
      cases sh with
      | false =>
        have hres : R.over ls = false := over_bad HKL.out HL.out.symm (by unfold Rf.overL; rw [← HSH.out]; rfl)
        have HRES := Lib.hid hres
        clear hres
        go_wp2_with fail
        go_quiet (fail)
        go_wp2_with fail
        go_ret
        rw [HRES.out]
        exact ⟨rfl, HMW.out.drewN _⟩
      | true =>
        go_wp2_with fail
        go_quiet (fail)
        obtain ⟨wo, rfl⟩ : ∃ wo : World, wo = wr := ⟨_, rfl⟩
        go_wp2_with fail
        clear hcell c4 cs
        go_loopw [6] (fun i wr => ∃ j : Nat, j ≤ ll ∧ i = .int .i64 j ∧ Mv (fun _ => False) w wr ∧ noLate (R.lates.take j) l = true) (fun i _ => ll - (intOf i).toNat)
        case atStart => exact ⟨0, Nat.zero_le _, rfl, HMW.out.drewN _, rfl⟩
        case round =>
          obtain ⟨j, hj, rfl, hmw2, hrel2⟩ := hrel
          have HMW2 := Lib.hid hmw2
          have HR2 := Lib.hid hrel2
          have hcell := (hmw2.cell (p := ⟨b, off + k, none⟩) hbl id).trans HCELL0.out
          obtain ⟨fv, wb, wcap, sb2, scap2, lv, cur, hp⟩ := (H.out.still hmw2).parts
          obtain ⟨la, lc, rfl, hcells⟩ := hp.lates.shape
          have c5 : wr.cell? ⟨G, 5, none⟩ = some (.slice la ll lc) := by rw [HLL.out]; exact cell_of_heap hp.head.2 5 rfl
          have HC := Lib.hid hcells
          clear hp hcells hmw2 hrel2
          by_cases hlt2 : j < ll
          · have hjj : (j : Int) < ll := by omega
            have hj0 : (0 : Int) ≤ j := by omega
            obtain ⟨x, hx⟩ : ∃ y, R.lates[j]? = some y := ⟨_, List.getElem?_eq_getElem (by rw [← HLL.out]; exact hlt2)⟩
            obtain ⟨g, u, rfl, _, q1, _, _⟩ := HC.out j x hx
            obtain ⟨xl, hxl⟩ : ∃ v, v = x.lane := ⟨_, rfl⟩
            rw [← hxl] at q1
            have HX := Lib.hid hx
            have HXL := Lib.hid hxl
            clear hx hxl
            by_cases he : xl = l
            · have he' : ((xl : Int) == l) = true := by simp [he]
              have hres : R.over ls = false := over_bad HKL.out HL.out.symm (by
                unfold Rf.overL noLate
                rw [Bool.and_eq_false_iff]
                right
                rw [List.all_eq_false]
                exact ⟨x, List.mem_of_getElem? HX.out, by rw [← HXL.out, he]; simp⟩)
              have HRES := Lib.hid hres
              clear hres he
              go_wp2_with fail
              go_quiet (fail)
              go_wp2_with fail
              go_ret
              rw [HRES.out]
              exact ⟨rfl, HMW2.out.drewN _⟩
            · have he' : ((xl : Int) == l) = false := by simp; omega
              have hstep : noLate (R.lates.take (j + 1)) l = true := by
                have hk := List.getElem?_eq_some_iff.1 HX.out
                have h0 := HR2.out
                unfold noLate at h0 ⊢
                rw [List.take_succ_eq_append_getElem hk.1, hk.2, List.all_append, h0, Bool.true_and]
                have : x.lane ≠ l := by rw [← HXL.out]; exact he
                simp [this]
              have HSTEP := Lib.hid hstep
              clear hstep he
              go_wp2_with fail
              go_quiet (fail)
              go_wp2_with fail
              go_roundw
              case rel => exact ⟨j + 1, by omega, by go_num, HMW2.out.drewN _, HSTEP.out⟩
              case measure => simp [intOf]; omega
          · have hge2 : ¬ (j : Int) < ll := by omega
            obtain rfl : j = ll := by omega
            have hstep : ∀ x ∈ ls.take (k + 1), R.overL x = true := fun x hx => by
              rw [List.take_succ_eq_append_getElem HKL.out] at hx
              simp only [List.mem_append, List.mem_singleton] at hx
              rcases hx with hx | rfl
              · exact HR.out x hx
              · have e : ls[k]'HKL.out = l := by rw [HL.out, List.getD_eq_getElem?_getD, List.getElem?_eq_getElem HKL.out]; rfl
                rw [e]
                have h0 := HR2.out
                rw [List.take_of_length_le (by rw [← HLL.out]; omega)] at h0
                unfold Rf.overL
                rw [← HSH.out, h0]; rfl
            have HSTEP := Lib.hid hstep
            clear hstep
            go_wp2_with fail
            go_roundw
            case rel => exact ⟨k + 1, by omega, by go_num, HMW2.out, HSTEP.out⟩
            case measure => simp [intOf]; omega
    · have hge : ¬ (k : Int) < n := by omega
      obtain rfl : k = n := by omega
      have hres : R.over ls = true := by
        have := HR.out
        rw [List.take_of_length_le (by rw [← HN.out]; omega)] at this
        unfold Rf.over
        rw [List.all_eq_true]
        exact this
      have HRES := Lib.hid hres
      clear hres
      go_wp2_with fail
      go_ret
      rw [HRES.out]
      exact ⟨rfl, HMW.out⟩
end Go.Proofs.Ytadalodjnbnjkaa

/- The document's net of a net: each of its steps is the net's own. -/
namespace Go.Proofs.Ytadalodjnbnjkaa

def Nt.ref (N : Nt) : Rf := ⟨N.nl, N.now, N.fates, N.sent, fun i => (N.lane i).buf, fun i => (N.lane i).closed, N.later⟩
theorem ref_pushed (N : Nt) (i : Nat) (m : List Int) : (N.pushed i m).ref = N.ref.come i m := by
  have e1 : (fun j => ((N.pushed i m).lane j).buf) = fun j => if j = i then Rf.come.pushBuf (N.lane i).buf m else (N.lane j).buf := by
    funext j
    by_cases h : j = i
    · subst h; rw [pushed_same, if_pos rfl]; rfl
    · rw [pushed_other _ _ h, if_neg h]
  have e2 : (fun j => ((N.pushed i m).lane j).closed) = fun j => (N.lane j).closed := by
    funext j; exact pushed_closed N i j m
  show (⟨N.nl, N.now, N.fates, N.sent, fun j => ((N.pushed i m).lane j).buf, fun j => ((N.pushed i m).lane j).closed, N.later⟩ : Rf) = _
  rw [e1, e2]
  rfl
theorem ref_sendAt (N : Nt) (i t : Nat) (m : List Int) : (N.sendAt i t m).ref = N.ref.late i m t := by
  unfold Nt.sendAt Rf.late
  split
  · exact ref_pushed N i m
  · have e1 : (fun j => ((N.delayed i t m).lane j).buf) = fun j => (N.lane j).buf := by
      funext j
      by_cases h : j = i
      · subst h; rw [delayed_same]
      · rw [delayed_other _ _ _ h]
    have e2 : (fun j => ((N.delayed i t m).lane j).closed) = fun j => (N.lane j).closed := by
      funext j; exact delayed_closed N i t j m
    show (⟨N.nl, N.now, N.fates, N.sent, fun j => ((N.delayed i t m).lane j).buf, fun j => ((N.delayed i t m).lane j).closed, N.later ++ [⟨N.now + t, i, m⟩]⟩ : Rf) = _
    rw [e1, e2]
    rfl
theorem ref_fated (N : Nt) (i : Nat) (m : List Int) (f : Int × Int) : (N.fated i m f).ref = N.ref.fated i m f := by
  unfold Nt.fated Rf.fated
  split
  · exact ref_pushed N i m
  · split
    · rfl
    · split
      · rw [ref_sendAt, ref_pushed]
      · split
        · exact ref_sendAt N i _ m
        · split
          · exact ref_pushed N i _
          · exact ref_pushed N i _
theorem ref_send (N : Nt) (i : Nat) (m : List Int) : (N.send i m).ref = N.ref.send i m := by
  unfold Nt.send Rf.send
  rw [ref_fated]; rfl
theorem ref_closed (N : Nt) (i : Nat) : (N.closed i).ref = N.ref.close i := by
  have e1 : (fun j => ((N.closed i).lane j).buf) = fun j => (N.lane j).buf := by
    funext j
    by_cases h : j = i
    · subst h; rw [closed_same]
    · rw [closed_other _ h]
  have e2 : (fun j => ((N.closed i).lane j).closed) = fun j => if j = i then true else (N.lane j).closed := by
    funext j
    by_cases h : j = i
    · subst h; rw [closed_same, if_pos rfl]
    · rw [closed_other _ h, if_neg h]
  show (⟨N.nl, N.now, N.fates, N.sent, fun j => ((N.closed i).lane j).buf, fun j => ((N.closed i).lane j).closed, N.later⟩ : Rf) = _
  rw [e1, e2]
  rfl
theorem ref_popped (N : Nt) (i : Nat) : (N.popped i).ref = N.ref.setW i (N.lane i).buf.tail := by
  have e1 : (fun j => ((N.popped i).lane j).buf) = fun j => if j = i then (N.lane i).buf.tail else (N.lane j).buf := by
    funext j
    by_cases h : j = i
    · subst h; rw [popped_same, if_pos rfl]; rfl
    · rw [popped_other _ h, if_neg h]
  have e2 : (fun j => ((N.popped i).lane j).closed) = fun j => (N.lane j).closed := by
    funext j
    by_cases h : j = i
    · subst h; rw [popped_same]; rfl
    · rw [popped_other _ h]
  show (⟨N.nl, N.now, N.fates, N.sent, fun j => ((N.popped i).lane j).buf, fun j => ((N.popped i).lane j).closed, N.later⟩ : Rf) = _
  rw [e1, e2]
  rfl
theorem ref_fst (N : Nt) (ls : List Nat) : N.ref.fst ls = fstO N ls := rfl

/-! ### time -/
/-- A step of reach is a step of tick, where nothing was due before. -/
theorem fold_reach {t : Nat} : ∀ (L : List Ml) (f : Nat → Lq) (R : Rf) (acc : List Ml), (∀ x ∈ L, t ≤ x.due) → R.waits = (fun j => (f j).buf) → R.shut = (fun j => (f j).closed) →
    (L.foldl (reachStep t) (R, acc)).2 = (L.foldl (tickStep t) (f, acc)).2 ∧ (L.foldl (reachStep t) (R, acc)).1.waits = (fun j => ((L.foldl (tickStep t) (f, acc)).1 j).buf) ∧ (L.foldl (reachStep t) (R, acc)).1.shut = (fun j => ((L.foldl (tickStep t) (f, acc)).1 j).closed)
  | [], f, R, acc, _, h1, h2 => ⟨rfl, h1, h2⟩
  | x :: L, f, R, acc, hL, h1, h2 => by
    have hx := hL x (by simp)
    rw [List.foldl_cons, List.foldl_cons]
    by_cases hd : x.due = t
    · have e1 : reachStep t (R, acc) x = (R.come x.lane x.msg, acc) := by simp [reachStep, hd]
      have e2 : tickStep t (f, acc) x = (setL f x.lane ((f x.lane).take x.msg), acc) := by simp [tickStep, hd]
      rw [e1, e2]
      refine fold_reach L _ _ acc (fun y hy => hL y (by simp [hy])) ?_ ?_
      · funext j
        show (if j = x.lane then Rf.come.pushBuf (R.waits x.lane) x.msg else R.waits j) = _
        rw [h1]
        by_cases hj : j = x.lane
        · subst hj; rw [if_pos rfl, setL_same]; rfl
        · rw [if_neg hj, setL_other _ _ hj]
      · show R.shut = _
        rw [h2]
        funext j
        by_cases hj : j = x.lane
        · subst hj; rw [setL_same]; rfl
        · rw [setL_other _ _ hj]
    · have e1 : reachStep t (R, acc) x = (R, acc ++ [x]) := by simp [reachStep, hd]
      have e2 : tickStep t (f, acc) x = (f, acc ++ [x]) := by
        have : t < x.due := by omega
        simp [tickStep, this]
      rw [e1, e2]
      exact fold_reach L f R _ (fun y hy => hL y (by simp [hy])) h1 h2
theorem foldl_reach_all (t : Nat) : ∀ (L : List Ml) (S : Rf × List Ml), (L.foldl (reachStep t) S).1.fates = S.1.fates ∧ (L.foldl (reachStep t) S).1.sent = S.1.sent
  | [], S => ⟨rfl, rfl⟩
  | x :: L, S => by
    rw [List.foldl_cons]
    obtain ⟨h1, h2⟩ := foldl_reach_all t L (reachStep t S x)
    rw [h1, h2]
    unfold reachStep
    split <;> exact ⟨rfl, rfl⟩
/-- One tick. -/
theorem ref_tick {N : Nt} (h : ∀ x ∈ N.later, N.now + 1 ≤ x.due) : N.tick.ref = N.ref.reach (N.now + 1) := by
  have e0 : N.ref.reachK (N.now + 1) N.ref.lates.length = N.later.foldl (reachStep (N.now + 1)) ({ N.ref with time := N.now + 1 }, []) := by
    unfold Rf.reachK
    rw [List.take_length]; rfl
  have e1 : N.ticked N.later.length = N.later.foldl (tickStep (N.now + 1)) (N.lane, []) := by unfold Nt.ticked; rw [List.take_length]
  obtain ⟨f1, f2, f3⟩ := fold_reach (t := N.now + 1) N.later N.lane { N.ref with time := N.now + 1 } [] h rfl rfl
  obtain ⟨g1, g2, g3⟩ := foldl_reach (N.now + 1) N.later ({ N.ref with time := N.now + 1 }, [])
  obtain ⟨k1, k2⟩ := foldl_reach_all (N.now + 1) N.later ({ N.ref with time := N.now + 1 }, [])
  unfold Rf.reach
  rw [e0]
  show (⟨N.nl, N.now + 1, N.fates, N.sent, fun j => ((N.ticked N.later.length).1 j).buf, fun j => ((N.ticked N.later.length).1 j).closed, (N.ticked N.later.length).2⟩ : Rf) = _
  rw [e1, ← f1, ← f2, ← f3]
  have fin : ∀ S : Rf × List Ml, S.1.nl = N.nl → S.1.time = N.now + 1 → S.1.fates = N.fates → S.1.sent = N.sent → (⟨N.nl, N.now + 1, N.fates, N.sent, S.1.waits, S.1.shut, S.2⟩ : Rf) = { S.1 with lates := S.2 } := by
    rintro ⟨⟨a, b, c, d, e, f, g⟩, S2⟩ h1 h2 h3 h4
    simp only at h1 h2 h3 h4
    subst h1 h2 h3 h4
    rfl
  exact fin _ g1 g3 k1 k2
/-- All that is on its way is due later. -/
def DueL (N : Nt) : Prop := ∀ x ∈ N.later, N.now < x.due
theorem DueL.tick (N : Nt) : DueL N.tick := by
  intro x hx
  have hx : x ∈ (N.ticked N.later.length).2 := hx
  have e1 : N.ticked N.later.length = N.later.foldl (tickStep (N.now + 1)) (N.lane, []) := by unfold Nt.ticked; rw [List.take_length]
  rw [e1] at hx
  have key : ∀ (L : List Ml) (f : Nat → Lq) (acc : List Ml), (∀ y ∈ acc, N.now + 1 < y.due) → ∀ y ∈ (L.foldl (tickStep (N.now + 1)) (f, acc)).2, N.now + 1 < y.due := by
    intro L
    induction L with
    | nil => intro f acc h; exact h
    | cons z L ih =>
      intro f acc h
      rw [List.foldl_cons]
      by_cases hd : N.now + 1 < z.due
      · have e : tickStep (N.now + 1) (f, acc) z = (f, acc ++ [z]) := by simp [tickStep, hd]
        rw [e]
        refine ih f _ fun y hy => ?_
        simp only [List.mem_append, List.mem_singleton] at hy
        rcases hy with hy | rfl
        · exact h y hy
        · exact hd
      · have e : tickStep (N.now + 1) (f, acc) z = (setL f z.lane ((f z.lane).take z.msg), acc) := by simp [tickStep, hd]
        rw [e]
        exact ih _ acc h
  exact key N.later N.lane [] (by simp) x hx
theorem DueL.ticks {N : Nt} (h : DueL N) : ∀ k, DueL (N.ticks k)
  | 0 => h
  | _ + 1 => DueL.tick _
theorem ref_at (N : Nt) (t : Nat) : (N.at t).ref = { N.ref with time := t } := rfl
/-- A leap to a tick ahead of which nothing is due. -/
theorem ref_reach {N : Nt} {d : Nat} (hd : 0 < d) (h : ∀ x ∈ N.later, N.now + d ≤ x.due) : (N.ticks d).ref = N.ref.reach (N.now + d) := by
  obtain ⟨e, rfl⟩ : ∃ e, d = e + 1 := ⟨d - 1, by omega⟩
  have hq : N.ticks e = N.at (N.now + e) := ticks_quiet e (fun x hx => by have := h x hx; omega)
  show (N.ticks e).tick.ref = _
  rw [hq]
  have := ref_tick (N := N.at (N.now + e)) (fun x hx => by have := h x hx; show N.now + e + 1 ≤ x.due; omega)
  rw [this]
  rfl
theorem nextF_mem : ∀ (l : List Ml) (L : Nat), ∀ x ∈ l, nextF l L ≤ x.due
  | [], L, x, hx => by simp at hx
  | y :: l, L, x, hx => by
    show nextF l (if y.due < L then y.due else L) ≤ x.due
    rcases List.mem_cons.1 hx with rfl | hx
    · have := nextF_le l (if x.due < L then x.due else L)
      by_cases h : x.due < L
      · rw [if_pos h] at this ⊢; exact this
      · rw [if_neg h] at this ⊢; omega
    · exact nextF_mem l _ x hx
theorem nextF_gt {n : Nat} : ∀ (l : List Ml) (L : Nat), n < L → (∀ x ∈ l, n < x.due) → n < nextF l L
  | [], L, h, _ => h
  | y :: l, L, h, hl => by
    show n < nextF l (if y.due < L then y.due else L)
    refine nextF_gt l _ ?_ (fun x hx => hl x (by simp [hx]))
    split
    · exact hl y (by simp)
    · exact h
theorem noLate_cnt (L : List Ml) (i : Nat) : noLate L i = (cnt i L == 0) := by
  unfold noLate cnt
  induction L with
  | nil => rfl
  | cons x L ih =>
    rw [List.all_cons, List.filter_cons, ih]
    by_cases h : x.lane = i
    · simp [h]
    · simp [h]
/-- Where nothing waits, both are over alike. -/
theorem ref_over {N : Nt} {ls : List Nat} (h : Okn N) (hls : ∀ l ∈ ls, l < N.nl) (hb : fstO N ls = none) : N.ref.over ls = allB N ls := by
  unfold Rf.over allB
  rw [Bool.eq_iff_iff, List.all_eq_true, List.all_eq_true]
  have key : ∀ l ∈ ls, N.ref.overL l = overB (N.lane l) := fun l hl => by
    have hbuf : (N.lane l).buf = [] := by
      unfold fstO at hb
      rw [List.find?_eq_none] at hb
      have := hb l hl
      unfold hasMsg at this
      simpa using this
    unfold Rf.overL overB Lq.shut
    rw [noLate_cnt, hbuf, h.coming l (hls l hl)]
    show ((N.lane l).closed && (cnt l N.later == 0)) = _
    simp
  exact ⟨fun hh l hl => by rw [← key l hl]; exact hh l hl, fun hh l hl => by rw [key l hl]; exact hh l hl⟩
end Go.Proofs.Ytadalodjnbnjkaa
