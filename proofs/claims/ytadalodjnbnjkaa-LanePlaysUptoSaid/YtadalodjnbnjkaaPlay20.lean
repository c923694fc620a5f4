/- Any: the lanes of its list are there, each once: it waits on them. -/
import Derived.Test.YtadalodjnbnjkaaPlay07
import Derived.Maps.OwnSet
import Derived.WalkKit
namespace Go.Proofs.Ytadalodjnbnjkaa
open Go.RowKit Go.Conc Go.Maps

theorem law3 : Keyed Try.prog 3 := int_keyed Try.underlying3
theorem zero3 (w : World) : (zeroValue 3).run Try.prog w = .ok (.int .i64 0) w := by kernel_rfl

/-- The map that counts how often a lane is named. -/
def AnyRel (w : World) (ls : List Nat) (k : Nat) (wr : World) : Prop :=
  Below w.heap.size w wr ∧ ∃ D : DataW Unit, wr.ownsMap Try.prog 3 (plainElem Try.prog 3) w.heap.size k D ∧ Maps.size D = k ∧ ∀ l : Nat, Maps.has D (.int .i64 l) = decide (l ∈ ls.take k)

theorem AnyRel.start (w : World) (ls : List Nat) : AnyRel w ls 0 (w.alloc (.map #[] 0)) :=
  ⟨(Below.refl _ _).alloc (Nat.le_refl _) _, .map [], World.ownsMap_made _ _ _ _, rfl, fun l => by simp [Maps.has]⟩
theorem AnyRel.step {w wr w1 : World} {ls : List Nat} {k : Nat} {D : DataW Unit} {d : DataW Unit} (hnd : ls.Nodup) (hk : k < ls.length) (hb : Below w.heap.size w wr) (ht : Tidy D)
    (hs : Maps.size D = k) (hh : ∀ l : Nat, Maps.has D (.int .i64 l) = decide (l ∈ ls.take k)) (hown1 : w1.ownsMap Try.prog 3 (plainElem Try.prog 3) w.heap.size (k + 1) (D.put (.int .i64 (ls.getD k 0)) d))
    (hg : wr.grownBy w1 (some w.heap.size)) : AnyRel w ls (k + 1) w1 := by
  refine ⟨hb.grown hg hb.size (fun j hj => by cases hj; exact Nat.le_refl _), _, hown1, ?_, fun l => ?_⟩
  · rw [size_put ht, hs, hh]
    have e : ls.getD k 0 = ls[k] := by simp [hk]
    have : ls.getD k 0 ∉ ls.take k := by
      rw [e]
      intro hm
      obtain ⟨j, hj, he⟩ := List.mem_take_iff_getElem.1 hm
      exact List.pairwise_iff_getElem.1 hnd j k (by omega) hk (by omega) he
    rw [decide_eq_false this]; simp
  · have e : ls.getD k 0 = ls[k] := by simp [hk]
    have e2 : (l ∈ ls.take (k + 1)) ↔ (l ∈ ls.take k ∨ l = ls[k]) := by rw [List.take_succ_eq_append_getElem hk, List.mem_append, List.mem_singleton]
    simp only [e2]
    by_cases hl : l = ls[k]
    · subst hl
      rw [e, has_put_same ht.isMap (by trivial)]
      simp
    · rw [has_put_other (by rw [e]; intro h; injection h with _ h; exact hl (by omega)), hh]
      simp [hl]

set_option maxRecDepth 100000 in
set_option maxHeartbeats 3200000 in
theorem any_ok (w : World) (own : Own) (A : Ga) (N : Nt) (t lb lcap : Nat) (ls : List Nat) (h : NetIs w own A N) (hf : Fine N) (hls : ∀ l ∈ ls, l < N.nl) (hnl : N.nl ≤ 64) (hlen : ls.length ≤ 64) (hpos : 0 < ls.length) (hnd : ls.Nodup) (ht : t ≤ 65536) (hin : ListIn w own lb ls) :
    Calls Try.prog 26 #[.pointer (some ⟨A.net, 0, none⟩), .slice (some ⟨lb, 0, none⟩) ls.length lcap, .int .i64 t] w (Waited w own A (Nt.waitGo ls t N)) := by
  have hmm := @run_makeMap Try.prog
  have H := Lib.hid h
  have HF := Lib.hid hf
  have HLS := Lib.hid hls
  have HIN := Lib.hid hin
  have HND := Lib.hid hnd
  obtain ⟨n, hn⟩ : ∃ n, n = ls.length := ⟨_, rfl⟩
  rw [← hn] at hlen hpos
  have HN := Lib.hid hn
  rw [← hn]
  clear h hf hls hin hnd hn
  go_enter Try.func26, Try.ntmps26
  go_wp2_with fail
  go_loopw [18] (fun i wr => ∃ k : Nat, k ≤ n ∧ i = .int .i64 k ∧ AnyRel w ls k wr) (fun i _ => n - (intOf i).toNat)
  case atStart => exact ⟨0, Nat.zero_le _, rfl, AnyRel.start w ls⟩
  case round =>
    obtain ⟨k, hk, rfl, hrel⟩ := hrel
    have HR := Lib.hid hrel
    have hbel := hrel.1
    clear hrel
    by_cases hlt : k < n
    · have hkn : k < ls.length := by rw [← HN.out]; exact hlt
      obtain ⟨x, hx⟩ : ∃ x, x = ls.getD k 0 := ⟨_, rfl⟩
      have hc : wr.cell? ⟨lb, k, none⟩ = some (.int .i64 x) := by
        rw [hx]; exact (hbel.cell (p := ⟨lb, k, none⟩) HIN.out.2.1).trans (HIN.out.2.2 k hkn)
      have hxl : x < N.nl := by
        refine HLS.out x ?_
        rw [hx]
        have e : ls.getD k 0 = ls[k] := by simp [hkn]
        rw [e]; exact List.getElem_mem _
      have HX := Lib.hid hx
      clear hx
      obtain ⟨capl, q3⟩ : ∃ capl, wr.cell? ⟨A.net, 0, none⟩ = some (.slice (some ⟨A.arr, 0, none⟩) N.nl capl) := by
        obtain ⟨h0, capl, fv, lv, h1, h2, h3, h4, h5⟩ := H.out.still (Mv.of_below hbel)
        exact ⟨capl, cell_of_heap h1.2 0 rfl⟩
      obtain ⟨D, hown, hsz, hhas⟩ := HR.out.2
      have HSZ := Lib.hid hsz
      have HHAS := Lib.hid hhas
      have HB := Lib.hid hbel
      clear hsz hhas hbel hkn
      have hkey : keyOf Try.prog 3 (.int .i64 (x : Int)) = some (.int .i64 x) := keyOf_int_mk Try.underlying3 (WalkArith.wf_i64 (by omega))
      go_wp2_with (first
        | (go_at_call 33; refine (has_yes _ A.net N.nl capl _ _ q3 (by omega) (by omega)).mono ?_; rintro e w' ⟨rfl, rfl⟩)
        | (at_lookup; refine wpList_lookup_own_int _ rfl _ _ 100 rfl 3 3 .i64 law3 Try.underlying100 Try.underlying3 (zero3 _) w.heap.size k _ rfl hown _ _ rfl hkey ?_; intro c hat hwc)
        | (at_mapUpdate; refine wpList_mapUpdate_own _ rfl _ _ _ 100 rfl 3 3 law3 Try.underlying100 _ w.heap.size k _ rfl hown (by unfold maxLen; omega) _ _ _ rfl rfl hkey _ [] (plainElem_int Try.underlying3 (wrap64_wf _)) ?_; intro w1 hown1 hgrow1))
      go_roundw
      case rel => exact ⟨k + 1, by omega, by go_num, AnyRel.step HND.out (by rw [← HN.out]; omega) HB.out (hown.tidy law3) HSZ.out HHAS.out (by rw [← HX.out]; exact hown1) hgrow1⟩
      case measure => simp [intOf]; omega
    · obtain rfl : k = n := by omega
      obtain ⟨D, hown, hsz, hhas⟩ := HR.out.2
      have HB := Lib.hid hbel
      clear hbel hhas
      have e1 : ((k : Int) == 0) = false := by simp; omega
      have e2 : ((k : Int) != k) = false := by simp
      have e3 : decide ((t : Int) < 0) = false := by simp
      have e4 : decide ((t : Int) > 65536) = false := by simp; omega
      have HM : Mv (fun _ => False) w wr := Mv.of_below HB.out
      have hin2 : ListIn wr own lb ls := HIN.out.keep (HM.mono (fun _ _ h => h.elim)) (Grows.refl _ _)
      have HIN2 := Lib.hid hin2
      have HM2 := Lib.hid HM
      clear hin2 HM
      have hl := hown.len Try.underlying100 3
      rw [hsz] at hl
      clear hsz
      go_wp2_with fail
      rw [HN.out]
      refine (wait_any wr own A N t lb lcap ls (H.out.still HM2.out) HF.out HLS.out (by rw [← HN.out]; exact hlen) ht HIN2.out).mono ?_
      rintro e w' ⟨v, rfl, own', r1, r2, r3, r4⟩
      have R4 := Lib.hid r4
      have hsz2 := HM2.out.size
      clear r4
      go_wp2_with fail
      go_ret3
      refine ⟨v, rfl, own', r1, (HM2.out.mono (fun _ _ h => h.elim)).trans' r2 (fun _ _ h => h), fun b hb ho => r3 b (by omega) ho, ?_⟩
      have r4 := R4.out
      cases hm : (Nt.waitGo ls t N).msg with
      | none => rw [hm] at r4; exact r4
      | some m =>
        rw [hm] at r4
        obtain ⟨g, q1, q2, q3⟩ := r4
        exact ⟨g, q1, q2, q3.imp id fun h => by omega⟩
end Go.Proofs.Ytadalodjnbnjkaa
