/- fate and send: what becomes of a message. -/
import Derived.Test.YtadalodjnbnjkaaPlay02
import Derived.Deep.QuietTactic
import Derived.BigQuiet
import Derived.Deep.RegionHeld3
import Derived.Deep.AppendLies
namespace Go.Proofs.Ytadalodjnbnjkaa
open Go.RowKit Go.Conc

/-- What fate leaves: the fate, and the count of messages one higher. -/
def Fated (w : World) (p : Nat) (lanes fv : Value) (sent : Nat) (now lv : Value) (k n : Int) (e : Ending) (w' : World) : Prop :=
  e = .returned (.agg #[.int .i64 k, .int .i64 n]) ∧ Mv (· = p) w w' ∧ w'.heap[p]? = some (.cells #[lanes, fv, .int .i64 ((sent + 1 : Nat) : Int), now, lv] 82 (0, 0))

theorem Mv.drewN {F : Nat → Prop} {a w : World} (h : Mv F a w) (n : Nat) : Mv F a (w.drewN n) := ⟨h.os, h.tape, h.output, h.size, h.block⟩

theorem fated_of {w w1 : World} {p : Nat} {lanes fv now lv : Value} {sent : Nat} {C : Array Value} (hp : w.heap[p]? = some (.cells C 82 (0, 0)))
    (hC : C.setIfInBounds 2 (.int .i64 ((sent + 1 : Nat) : Int)) = #[lanes, fv, .int .i64 ((sent + 1 : Nat) : Int), now, lv])
    (hb : Mv (fun _ => False) w w1) (x : Value) (hx : x = .int .i64 ((sent + 1 : Nat) : Int)) (u v : Value) (q : Nat) (hq : w.heap.size ≤ q) :
    Mv (· = p) w (((w1.setCell ⟨p, 2, none⟩ x).setCell ⟨q, 0, none⟩ u).setCell ⟨q, 1, none⟩ v) ∧
      (((w1.setCell ⟨p, 2, none⟩ x).setCell ⟨q, 0, none⟩ u).setCell ⟨q, 1, none⟩ v).heap[p]? = some (.cells #[lanes, fv, .int .i64 ((sent + 1 : Nat) : Int), now, lv] 82 (0, 0)) := by
  subst hx
  have hl := lt_of_heap hp
  have h1 := (hb.block p hl id).trans hp
  refine ⟨Mv.setCell (Mv.setCell (Mv.setCell (F := fun x => x = p) (hb.mono (fun _ _ h => h.elim)) (.inl rfl) _) (.inr hq) _) (.inr hq) _, ?_⟩
  rw [heap_setCell_other (by omega), heap_setCell_other (by omega), heap_setCell_same h1 _, hC]

set_option maxHeartbeats 800000 in
/-- Behind the last fate every message is delivered. -/
theorem fate_none (w : World) (p nf cap sent : Nat) (lanes now lv : Value) (fa : Option Addr) (hp : w.heap[p]? = some (.cells #[lanes, .slice fa nf cap, .int .i64 sent, now, lv] 82 (0, 0)))
    (hs : nf ≤ sent) (hb : sent < 1099511627776) : Calls Try.prog 34 #[.pointer (some ⟨p, 0, none⟩)] w (Fated w p lanes (.slice fa nf cap) sent now lv 0 0) := by
  have h1 : w.cell? ⟨p, 1, none⟩ = some (.slice fa nf cap) := cell_of_heap hp 1 rfl
  have h2 : w.cell? ⟨p, 2, none⟩ = some (.int .i64 sent) := cell_of_heap hp 2 rfl
  have hf := free_of_heap hp 2
  have hpl := lt_of_heap hp
  have HP := Lib.hid hp
  have hlt : decide ((sent : Int) < nf) = false := by simp; omega
  clear hp
  go_enter Try.func34, Try.ntmps34
  go_wp2_with fail
  go_quiet (fail)
  go_wp2_with fail
  refine bodyPost_ret (v := .agg #[.int .i64 0, .int .i64 0]) (by simp [results, Try.results34, go_sem]) rfl ?_
  exact ⟨rfl, fated_of HP.out (by simp) ((((Mv.refl _ _).alloc _).alloc _).drewN _) _ (by go_num) _ _ _ (Nat.le_refl _)⟩

set_option maxHeartbeats 800000 in
theorem fate_some (w : World) (p nf cap sent b : Nat) (lanes now lv : Value) (k n : Int) (hp : w.heap[p]? = some (.cells #[lanes, .slice (some ⟨b, 0, none⟩) nf cap, .int .i64 sent, now, lv] 82 (0, 0)))
    (hs : sent < nf) (hb : sent < 1099511627776) (hk : w.cell? ⟨b, sent * 2, none⟩ = some (.int .i64 k)) (hn : w.cell? ⟨b, sent * 2 + 1, none⟩ = some (.int .i64 n)) :
    Calls Try.prog 34 #[.pointer (some ⟨p, 0, none⟩)] w (Fated w p lanes (.slice (some ⟨b, 0, none⟩) nf cap) sent now lv k n) := by
  have h1 : w.cell? ⟨p, 1, none⟩ = some (.slice (some ⟨b, 0, none⟩) nf cap) := cell_of_heap hp 1 rfl
  have h2 : w.cell? ⟨p, 2, none⟩ = some (.int .i64 sent) := cell_of_heap hp 2 rfl
  have hf := free_of_heap hp 2
  have hpl := lt_of_heap hp
  have hbl := World.block_lt_of_cell? w _ hk
  have HP := Lib.hid hp
  have hlt : decide ((sent : Int) < nf) = true := by simp; omega
  have hlt' : (sent : Int) < nf := by omega
  have h0 : (0 : Int) ≤ sent := by omega
  clear hp
  go_enter Try.func34, Try.ntmps34
  go_wp2_with fail
  go_quiet (fail)
  go_wp2_with fail
  go_region
  go_wp2
  refine bodyPost_ret (v := .agg #[.int .i64 k, .int .i64 n]) (by simp [results, Try.results34, go_sem]) rfl ?_
  refine ⟨rfl, fated_of HP.out (by simp) ?_ _ (by go_num) _ _ _ (Nat.le_refl _)⟩
  exact ((((Mv.refl _ _).alloc _).alloc _).drewN _).setCell (.inr (by simp)) _ |>.setCell (.inr (by simp)) _
end Go.Proofs.Ytadalodjnbnjkaa

/- send: a message comes to its lane at once, or joins those on their way. -/
namespace Go.Proofs.Ytadalodjnbnjkaa
open Go.RowKit Go.Conc

/-- Of what was there nothing has changed its owner. -/
def Same (n : Nat) (own own' : Own) : Prop := ∀ b, b < n → own' b = own b
theorem Same.refl (n : Nat) (own : Own) : Same n own own := fun _ _ => rfl
theorem Same.grows {n : Nat} {own own' : Own} (h : Same n own own') : Grows n own own' := fun b hb ho => (h b hb).trans ho
theorem Same.put {n : Nat} {own own' : Own} (h : Same n own own') {b : Nat} (hb : n ≤ b) (t : Tag) : Same n own (own'.put b t) :=
  fun k hk => by rw [Own.put_other _ _ (by omega)]; exact h k hk
theorem Same.trans {n m : Nat} {a b c : Own} (h : Same n a b) (k : Same m b c) (hn : n ≤ m) : Same n a c := fun i hi => (k i (by omega)).trans (h i hi)

/-- Lane i has one message more. -/
def CameL (w : World) (own : Own) (A : Ga) (i : Nat) (L : Lq) (l : List Int) (e : Ending) (w' : World) : Prop :=
  e = .returned (.tuple #[]) ∧ Mv (· = A.c i) w w' ∧ ∃ own', Same w.heap.size own own' ∧ Lies w' own' ∧ LaneIs w' own' A i (L.push l) false

theorem BufIs.push {w' : World} {own' : Own} {i r : Nat} {vs : Array Value} {buf : List (List Int)} {v : Value} {l : List Int} {g : Nat} (h : BufIs w' own' i r vs buf)
    (hg : own' g = some (.msg i (r + buf.length))) (hm : MsgAt w' g v l) : BufIs w' own' i r (vs.push v) (buf ++ [l]) := by
  refine ⟨by simp [h.1], fun j v' l' hv hl => ?_⟩
  by_cases hj : j < buf.length
  · rw [Array.getElem?_push, if_neg (by have := h.1; omega)] at hv
    rw [List.getElem?_append_left hj] at hl
    exact h.2 j v' l' hv hl
  · have hj' : j = buf.length := by
      have := (List.getElem?_eq_some_iff.1 hl).1
      simp at this
      omega
    subst hj'
    rw [Array.getElem?_push, if_pos h.1.symm] at hv
    simp at hv hl
    subst hv; subst hl
    exact ⟨g, hg, hm⟩

theorem comeL (w : World) (own : Own) (A : Ga) (i : Nat) (L : Lq) (ad : Addr) (n cap : Nat) (l : List Int) (hL : LaneIs w own A i L false) (hlies : Lies w own)
    (hn : l.length = n) (hcells : ∀ j u, (ub l)[j]? = some u → w.cell? (ad.add j) = some u) (hsz : n ≤ 1099511627776) :
    Calls Try.prog 46 #[.pointer (some ⟨A.q i, 0, none⟩), .slice (some ad) n cap] w (CameL w own A i L l) := by
  obtain ⟨h1, h2, h3, vs, s, r, h4, h5⟩ := hL
  refine (come_any w (A.q i) (A.c i) L.closed L.coming vs s r ad n cap l h3 h4 hn hcells hsz).mono ?_
  rintro e w' ⟨rfl, hmv, hc⟩
  refine ⟨rfl, hmv, ?_⟩
  have hqc : A.q i ≠ A.c i := fun e => by rw [e, h4] at h3; cases h3
  have h3' := (hmv.block _ (lt_of_heap h3) hqc).trans h3
  have hbuf : ∀ b k, own b = some (.msg i k) → w'.heap[b]? = w.heap[b]? := fun b k hb => hmv.block b (hlies b _ hb) (fun e => by subst e; rw [h2] at hb; cases hb)
  rcases hc with ⟨hlt, v, g, hm, hg, hc'⟩ | ⟨hge, hc'⟩
  · refine ⟨own.put g (.msg i (r + L.buf.length)), (Same.refl _ _).put hg _, (hlies.mono hmv.size).put hm.lt _, ?_⟩
    have hne : ∀ b t, own b = some t → b ≠ g := fun b t hb => by have := hlies b t hb; omega
    refine ⟨by rw [Own.put_other _ _ (hne _ _ h1)]; exact h1, by rw [Own.put_other _ _ (hne _ _ h2)]; exact h2, h3', vs.push v, s + 1, r, hc', ?_⟩
    have hb : L.buf.length < 64 := by rw [← h5.1]; exact hlt
    simp only [Lq.push, hb, if_true]
    exact (h5.keep fun b k hb => ⟨by rw [Own.put_other _ _ (hne _ _ hb)]; exact hb, hbuf b k hb⟩).push (Own.put_same _ _ _) hm
  · refine ⟨own, Same.refl _ _, hlies.mono hmv.size, h1, h2, h3', vs, s, r, hc', ?_⟩
    have hb : ¬ L.buf.length < 64 := by rw [← h5.1]; omega
    simp only [Lq.push, hb, if_false]
    exact h5.keep fun b k hb => ⟨hb, hbuf b k hb⟩

/-- What a call on a net leaves: the net N', what it may have turned, who owns what now. -/
def Leaves (w : World) (own : Own) (A : Ga) (N' : Nt) (e₀ : Ending) (e : Ending) (w' : World) : Prop :=
  e = e₀ ∧ ∃ own', NetIs w' own' A N' ∧ Mv own.has w w' ∧ Grows w.heap.size own own'

def Nt.pushed (N : Nt) (i : Nat) (m : List Int) : Nt := { N with lane := setL N.lane i ((N.lane i).push m) }
def Nt.delayed (N : Nt) (i t : Nat) (m : List Int) : Nt :=
  { N with lane := setL N.lane i { N.lane i with coming := (N.lane i).coming + 1 }, later := N.later ++ [⟨N.now + t, i, m⟩] }

/-- The net behind a come. -/
theorem NetIs.came {w w' : World} {own own' : Own} {A : Ga} {N : Nt} {i : Nat} {L : Lq} (h : NetIs w own A N) (hmv : Mv (· = A.c i) w w') (hc : own (A.c i) = some (.c i)) (hs : Same w.heap.size own own') (hl : Lies w' own')
    (hL : LaneIs w' own' A i L L.shut) : NetIs w' own' A { N with lane := setL N.lane i L } := by
  obtain ⟨h0, cap, fv, lv, h1, h2, h3, h4, h5⟩ := h
  have key : ∀ b t, own b = some t → t ≠ .c i → own' b = some t ∧ w'.heap[b]? = w.heap[b]? := fun b t hb ht =>
    ⟨(hs b (h0 b t hb)).trans hb, hmv.block b (h0 b t hb) (fun e => by subst e; rw [hc] at hb; exact ht (by cases hb; rfl))⟩
  refine ⟨hl, cap, fv, lv, ⟨(key _ _ h1.1 (by simp)).1, (key _ _ h1.1 (by simp)).2.trans h1.2⟩, h2.keep (fun ho => key _ _ ho (by simp)), h3.keep (fun b hb => key _ _ hb (by simp)),
    h4.keep (fun b hb => ?_), fun j hj => ?_⟩
  · rcases hb with hb | hb <;> exact ⟨(key _ _ hb (by simp)).1.trans hb.symm, (key _ _ hb (by simp)).2⟩
  · by_cases hji : j = i
    · subst hji
      simpa [setL_same] using hL
    · simp only [setL_other _ _ hji]
      refine (h5 j hj).keep fun b t hb ht => key b t hb ?_
      rcases ht with rfl | rfl | ⟨k, rfl⟩ <;> simp [hji]

theorem Try.info115 : (Try.prog.info? 115).map (fun i => (i.zero, i.size, i.bytes)) = some (some (.agg #[.int .i64 0, .int .i64 0, .slice none 0 0]), 3, 40) := by kernel_rfl

set_option maxRecDepth 100000 in
set_option maxHeartbeats 3200000 in
theorem send_now (w : World) (own : Own) (A : Ga) (N : Nt) (i : Nat) (ad : Addr) (n cap : Nat) (l : List Int) (h : NetIs w own A N) (hi : i < N.nl) (hop : (N.lane i).closed = false)
    (hn : l.length = n) (hcells : ∀ j u, (ub l)[j]? = some u → w.cell? (ad.add j) = some u) (hsz : n ≤ 1099511627776) :
    Calls Try.prog 35 #[.pointer (some ⟨A.net, 0, none⟩), .int .i64 i, .int .i64 0, .slice (some ad) n cap] w (Leaves w own A (N.pushed i l) (.returned (.tuple #[]))) := by
  have H := Lib.hid h
  obtain ⟨h0, capl, fv, lv, h1, h2, h3, h4, h5⟩ := h
  have hL := h5 i hi
  have hsh : (N.lane i).shut = false := by simp [Lq.shut, hop]
  rw [hsh] at hL
  have HL := Lib.hid hL
  have HN := Lib.hid hn
  have HC := Lib.hid hcells
  have HS := Lib.hid hsz
  have HZ := Lib.hid h0
  have g0 : w.cell? ⟨A.net, 0, none⟩ = some (.slice (some ⟨A.arr, 0, none⟩) N.nl capl) := cell_of_heap h1.2 0 rfl
  have g1 := h2.cell hi
  have hii : (i : Int) < N.nl := by omega
  have hop' := Lib.hid hop
  clear hn hcells hsz hL h5 h0 h1 h2 h3 h4 hsh hop
  go_enter Try.func35, Try.ntmps35
  go_wp2_with (go_at_call 46; refine (comeL w own A i (N.lane i) ad n cap l HL.out HZ.out HN.out HC.out HS.out).mono ?_; rintro e w' ⟨rfl, hmv, own', hs, hl, hL'⟩)
  refine bodyPost_ret (results_none rfl _ _ _) rfl ⟨rfl, own', ?_, hmv.mono (fun b _ hb => by subst hb; unfold Own.has; rw [HL.out.2.1]; simp), hs.grows⟩
  refine NetIs.came H.out hmv HL.out.2.1 hs hl ?_
  have : ((N.lane i).push l).shut = false := by simp [Lq.shut, Lq.push, hop'.out]
  rw [this]; exact hL'
end Go.Proofs.Ytadalodjnbnjkaa
