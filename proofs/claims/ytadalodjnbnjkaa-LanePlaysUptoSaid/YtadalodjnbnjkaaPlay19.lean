/- The document's net: Pass. -/
import Derived.Test.YtadalodjnbnjkaaPlay18
import Derived.Deep.LoopGhost
namespace Go.Proofs.Ytadalodjnbnjkaa
open Go.RowKit Go.Conc

/-- What is asked of a net whose time goes on, for the document's too. -/
structure FineR (N : Nt) : Prop where
  fine : Fine N
  due : DueL N
theorem FineR.lanes {N : Nt} (h : FineR N) : ∀ x ∈ N.ref.lates, x.lane < N.ref.nl := fun x hx => (h.fine.ok.later x hx).1
theorem FineR.ticks {N : Nt} (h : FineR N) (k : Nat) (hk : N.now + k < 549755813888) : FineR (N.ticks k) :=
  ⟨⟨ticks_ok h.fine.ok k, by rw [ticks_now]; exact hk, by have := ticks_len N k; have := h.fine.later; omega, fun x hx => h.fine.due x (ticks_mem N k x hx)⟩, h.due.ticks k⟩

theorem rPass_bad (w : World) (G : Nat) (x : Int) (hx : x < 0 ∨ 65536 < x) : Calls Try.prog 52 #[.pointer (some ⟨G, 0, none⟩), .int .i64 x] w fun e w' => e = .returned (.int .i64 1) ∧ w = w' := by
  rcases hx with h | h
  · have d1 : decide (x < 0) = true := by simpa using h
    go_enter Try.func52, Try.ntmps52
    go_wp2
    go_ret
    exact ⟨rfl, rfl⟩
  · have d1 : decide (x < 0) = false := by simp; omega
    have d2 : decide (x > 65536) = true := by simpa using h
    go_enter Try.func52, Try.ntmps52
    go_wp2
    go_ret
    exact ⟨rfl, rfl⟩

/-- One leap: next, reach. -/
theorem leap {N : Nt} {d e : Nat} (h : FineR N) (he : e < d) : ∃ r, 0 < r ∧ e + r ≤ d ∧ nextF (N.ticks e).ref.lates (N.now + d) = N.now + (e + r) ∧ (N.ticks e).ref.reach (N.now + (e + r)) = (N.ticks (e + r)).ref ∧ ∀ x ∈ (N.ticks e).later, N.now + (e + r) ≤ x.due := by
  have hgt := nextF_gt (n := N.now + e) (N.ticks e).ref.lates (N.now + d) (by omega) (fun x hx => by have := (h.due.ticks e) x hx; rw [ticks_now] at this; exact this)
  have hle := nextF_le (N.ticks e).ref.lates (N.now + d)
  refine ⟨nextF (N.ticks e).ref.lates (N.now + d) - (N.now + e), by omega, by omega, by omega, ?_, fun x hx => ?_⟩
  · have := ref_reach (N := N.ticks e) (d := nextF (N.ticks e).ref.lates (N.now + d) - (N.now + e)) (by omega) (fun x hx => by
      have := nextF_mem (N.ticks e).ref.lates (N.now + d) x hx
      rw [ticks_now]; omega)
    rw [ticks_now, ← ticks_add] at this
    rw [this]
    congr 1
    omega
  · have := nextF_mem (N.ticks e).ref.lates (N.now + d) x hx
    omega

set_option maxRecDepth 100000 in
set_option maxHeartbeats 1600000 in
theorem rPass_ok (w : World) (own : ROwn) (G : Nat) (N : Nt) (d : Nat) (h : RefIs w own G N.ref) (hf : FineR N) (hd : d ≤ 65536) :
    Calls Try.prog 52 #[.pointer (some ⟨G, 0, none⟩), .int .i64 d] w (RLeaves w own G (N.ticks d).ref (.returned (.int .i64 0))) := by
  have hnow := hf.fine.now
  have hlat := hf.fine.later
  have c0 : w.cell? ⟨G, 0, none⟩ = some (.int .i64 N.now) := by
    obtain ⟨fv, wb, wcap, sb, scap, lv, cur, hp⟩ := h.parts
    exact cell_of_heap hp.head.2 0 rfl
  have H := Lib.hid h
  have HF := Lib.hid hf
  obtain ⟨T, hT⟩ : ∃ T, T = N.now := ⟨_, rfl⟩
  rw [← hT] at c0 hnow
  have HT := Lib.hid hT
  have d1 : decide ((d : Int) < 0) = false := by simp
  have d2 : decide ((d : Int) > 65536) = false := by simp; omega
  have d3 : (d : Int) ≤ 65536 := by omega
  clear h hf hT
  go_enter Try.func52, Try.ntmps52
  go_wp2_with fail
  go_loopg [6] d (fun k tv wr => ∃ (e : Nat) (own' : ROwn), e + k = d ∧ RefIs wr own' G (N.ticks e).ref ∧ Mv own.may w wr ∧ RGrows w.heap.size own own')
  case atStart => exact ⟨0, own, by omega, H.out, Mv.refl _ _, RGrows.refl _ _⟩
  case round =>
    obtain ⟨e, own', hek, hR, hm, hg⟩ := hrel
    have c0 : wr.cell? ⟨G, 0, none⟩ = some (.int .i64 ((T : Int) + e)) := by
      obtain ⟨fv, wb, wcap, sb, scap, lv, cur, hp⟩ := hR.parts
      have := cell_of_heap hp.head.2 0 rfl
      have e1 : (N.ticks e).ref.time = N.now + e := ticks_now N e
      rw [e1, ← HT.out, Int.natCast_add] at this
      exact this
    have HR := Lib.hid hR
    have HM := Lib.hid hm
    have HG := Lib.hid hg
    clear hR hm hg
    by_cases hlt : e < d
    · have hlt' : (T : Int) + e < (T : Int) + d := by omega
      obtain ⟨r, hr0, hr1, hnx, hrc, _⟩ := leap HF.out hlt
      have hft1 : (N.ticks e).ref.lates.length < 549755813888 := by have h1 := ticks_len N e; show (N.ticks e).later.length < _; omega
      have hft2 : ∀ x ∈ (N.ticks e).ref.lates, x.lane < (N.ticks e).ref.nl := fun x hx => ((ticks_ok HF.out.fine.ok e).later x hx).1
      have hnext := next_any wr own' G (N.ticks e).ref (N.now + d) HR.out hft1
      rw [hnx, ← HT.out, Int.natCast_add, Int.natCast_add] at hnext
      have hreach := reach_any wr own' G (N.ticks e).ref (N.now + (e + r)) HR.out hft1 hft2
      rw [hrc, ← HT.out, Int.natCast_add] at hreach
      have HNX := Lib.hid hnext
      have HRC := Lib.hid hreach
      obtain ⟨er, her⟩ : ∃ v, v = e + r := ⟨_, rfl⟩
      rw [← her] at HNX HRC
      have HER := Lib.hid her
      clear hnx hrc hft1 hft2 hnext hreach her
      go_wp2_with fail
      (with_reducible refine HNX.out.mono ?_)
      rintro u w' ⟨rfl, rfl⟩
      go_wp2_with fail
      refine HRC.out.mono ?_
      rintro u w2 ⟨rfl, own2, q1, q2, q3⟩
      have hm2 : Mv own.may w w2 := HM.out.trans' q2 (fun b hb hh => HG.out.may hb hh)
      have hg2 : RGrows w.heap.size own own2 := HG.out.trans q3 HM.out.size
      have Q1 := Lib.hid q1
      have HM2 := Lib.hid hm2
      have HG2 := Lib.hid hg2
      clear q1 q2 q3 hm2 hg2
      go_wp2_with fail
      go_roundg (d - er)
      case measure => have := HER.out; omega
      case rel => exact ⟨er, own2, by have := HER.out; omega, Q1.out, HM2.out, HG2.out⟩
    · have hlt' : ¬ (T : Int) + e < (T : Int) + d := by omega
      obtain rfl : e = d := by omega
      go_wp2_with fail
      go_ret
      exact ⟨rfl, own', HR.out, HM.out, HG.out⟩
end Go.Proofs.Ytadalodjnbnjkaa

/- The document's net: wait, Wait. -/
namespace Go.Proofs.Ytadalodjnbnjkaa
open Go.RowKit Go.Conc

theorem waitGo_leap {M : Nt} {ls : List Nat} {r k : Nat} (h1 : fstO M ls = none) (h2 : allB M ls = false) (hr : 0 < r) (hk : r ≤ k) (hd : ∀ x ∈ M.later, M.now + r ≤ x.due) : Nt.waitGo ls k M = Nt.waitGo ls (k - r) (M.ticks r) := by
  obtain ⟨s, rfl⟩ : ∃ s, r = s + 1 := ⟨r - 1, by omega⟩
  have hq : ∀ x ∈ M.later, M.now + s < x.due := fun x hx => by have := hd x hx; omega
  have e1 := waitGo_quiet (N := M) (ls := ls) s (k - s) h1 h2 hq
  rw [show s + (k - s) = k by omega] at e1
  have e2 : M.ticks (s + 1) = (M.at (M.now + s)).tick := by
    show (M.ticks s).tick = _
    rw [ticks_quiet s hq]
  rw [e1, e2, show k - s = (k - (s + 1)) + 1 by omega]
  exact waitGo_succ (N := M.at (M.now + s)) h1 h2 _

/-- What a wait on the document's net leaves. -/
def RWaited (w : World) (own : ROwn) (G : Nat) (R : Wr) (e : Ending) (w' : World) : Prop :=
  ∃ u, e = .returned (.tuple #[.int .i64 R.lane, u, .int .i64 R.err]) ∧ ∃ own', RefIs w' own' G R.net.ref ∧ Mv own.may w w' ∧ RGrows w.heap.size own own' ∧ match R.msg with
    | none => u = .slice none 0 0
    | some m => DatIs w' own' u m
def LFree (w : World) (own : ROwn) (a : Option Addr) (ls : List Nat) : Prop := ∀ ad, ls ≠ [] → a = some ad → ad.block < w.heap.size ∧ own ad.block = none

set_option maxRecDepth 100000 in
set_option maxHeartbeats 1600000 in
theorem rwait_any (w : World) (own : ROwn) (G : Nat) (N : Nt) (a : Option Addr) (c d : Nat) (ls : List Nat) (h : RefIs w own G N.ref) (hf : FineR N) (hls : ∀ l ∈ ls, l < N.nl) (hlen : ls.length ≤ 64) (hd : d ≤ 65536) (hin : LanesIn w a ls) (hfree : LFree w own a ls) :
    Calls Try.prog 67 #[.pointer (some ⟨G, 0, none⟩), .slice a ls.length c, .int .i64 d] w (RWaited w own G (Nt.waitGo ls d N)) := by
  have hnow := hf.fine.now
  have hlat := hf.fine.later
  have c0 : w.cell? ⟨G, 0, none⟩ = some (.int .i64 N.now) := by
    obtain ⟨fv, wb, wcap, sb, scap, lv, cur, hp⟩ := h.parts
    exact cell_of_heap hp.head.2 0 rfl
  have H := Lib.hid h
  have HF := Lib.hid hf
  have HLS := Lib.hid hls
  have HIN := Lib.hid hin
  have HFR := Lib.hid hfree
  obtain ⟨T, hT⟩ : ∃ T, T = N.now := ⟨_, rfl⟩
  rw [← hT] at c0 hnow
  have HT := Lib.hid hT
  obtain ⟨n, hn⟩ : ∃ n, n = ls.length := ⟨_, rfl⟩
  rw [← hn] at hlen ⊢
  have HN := Lib.hid hn
  clear h hf hT hls hin hfree hn
  go_enter Try.func67, Try.ntmps67
  go_wp2_with fail
  go_loopg [10, 11, 12, 13] d (fun k lv dv gv tv wr => ∃ (e : Nat) (own' : ROwn), e + k = d ∧ Nt.waitGo ls d N = Nt.waitGo ls k (N.ticks e) ∧ RefIs wr own' G (N.ticks e).ref ∧ Mv own.may w wr ∧ RGrows w.heap.size own own')
  case atStart => exact ⟨0, own, by omega, rfl, H.out, Mv.refl _ _, RGrows.refl _ _⟩
  case round =>
    obtain ⟨e, own', hek, hwg, hR, hm, hg⟩ := hrel
    have hnle : (N.ticks e).nl = N.nl := ticks_nl N e
    have hin' : LanesIn wr a ls := HIN.out.still fun ad h1 h2 => hm.block _ (HFR.out ad h1 h2).1 (fun hh => hh.1 (HFR.out ad h1 h2).2)
    have hfr' : ∀ ad, ls ≠ [] → a = some ad → own' ad.block = none := fun ad h1 h2 => hg.1 _ (HFR.out ad h1 h2).1 (HFR.out ad h1 h2).2
    have hls' : ∀ l ∈ ls, l < (N.ticks e).ref.nl := fun l hl => by show l < (N.ticks e).nl; rw [hnle]; exact HLS.out l hl
    have htake := rtake_any wr own' G (N.ticks e).ref a c ls hR hls' (by rw [← HN.out]; exact hlen) hin' hfr'
    rw [← HN.out] at htake
    have HTAKE := Lib.hid htake
    have HR := Lib.hid hR
    have HM := Lib.hid hm
    have HG := Lib.hid hg
    have HWG := Lib.hid hwg
    have HEK := Lib.hid hek
    have HIN2 := Lib.hid hin'
    have HLS2 := Lib.hid hls'
    clear hR hm hg hwg hek hin' hfr' hls' htake hnle
    cases hfst : fstO (N.ticks e) ls with
    | some l =>
      have HFST := Lib.hid hfst
      clear hfst
      go_wp2_with fail
      (with_reducible refine HTAKE.out.mono ?_)
      intro u w2 hT
      have hT2 : ∃ u2 m ms, (N.ticks e).ref.waits l = m :: ms ∧ u = .returned (.tuple #[.int .i64 l, u2]) ∧ RefIs w2 own' G ((N.ticks e).ref.setW l ms) ∧ DatIs w2 own' u2 m ∧ Mv own'.may wr w2 := by
        have h0 := hT
        unfold Took at h0
        rw [ref_fst, HFST.out] at h0
        exact h0
      obtain ⟨u2, m, ms, t1, rfl, t2, t3, t4⟩ := hT2
      have hres : RWaited w own G (Nt.waitGo ls d N) (.returned (.tuple #[.int .i64 l, u2, .int .i64 0])) w2 := by
        rw [HWG.out, waitGo_some HFST.out]
        have hb : ((N.ticks e).lane l).buf = m :: ms := t1
        refine ⟨u2, rfl, own', ?_, HM.out.trans' t4 (fun b hb hh => HG.out.may hb hh), HG.out, ?_⟩
        · rw [ref_popped, hb]; exact t2
        · rw [hb]; exact t3
      have HRES := Lib.hid hres
      have hl0 : decide ((l : Int) ≥ 0) = true := by simp
      have hl1 : (0 : Int) ≤ l := by omega
      obtain ⟨ua, uc, rfl, _⟩ := t3
      clear t1 t2 t4 hT hres
      go_wp2_with fail
      go_ret3
      exact HRES.out
    | none =>
      have HFST := Lib.hid hfst
      clear hfst
      go_wp2_with fail
      (with_reducible refine HTAKE.out.mono ?_)
      intro u w2 hT
      have hT2 : u = .returned (.tuple #[.int .i64 (-1), .slice none 0 0]) ∧ Mv (fun _ => False) wr w2 := by
        have h0 := hT
        unfold Took at h0
        rw [ref_fst, HFST.out] at h0
        exact h0
      obtain ⟨rfl, t1⟩ := hT2
      have hover := rover_any w2 own' G (N.ticks e).ref a c ls (HR.out.still t1) HLS2.out (by rw [← HN.out]; exact hlen) (by have h1 := ticks_len N e; show (N.ticks e).later.length < _; omega) (HIN2.out.still fun ad h1 h2 => t1.block _ (by
        obtain ⟨b, off, hb, hc⟩ := HIN2.out.resolve_left h1
        have := World.block_lt_of_cell? _ _ (hc 0 (by cases ls with | nil => exact absurd rfl h1 | cons _ _ => simp))
        rw [h2] at hb
        cases hb
        exact this) id)
      rw [← HN.out, ref_over (ticks_ok HF.out.fine.ok e) (fun l hl => HLS2.out l hl) HFST.out] at hover
      have HOV := Lib.hid hover
      have hm2 : Mv own.may w w2 := HM.out.trans' t1 (fun _ _ hh => hh.elim)
      have hr2 := HR.out.still t1
      have HM2 := Lib.hid hm2
      have HR2 := Lib.hid hr2
      clear hT t1 hover hm2 hr2
      go_wp2_with fail
      (with_reducible refine HOV.out.mono ?_)
      rintro u w3 ⟨rfl, t3⟩
      have hm3 : Mv own.may w w3 := HM2.out.trans' t3 (fun _ _ hh => hh.elim)
      have hr3 := HR2.out.still t3
      have c0 : w3.cell? ⟨G, 0, none⟩ = some (.int .i64 ((T : Int) + e)) := by
        obtain ⟨fv, wb, wcap, sb, scap, lv, cur, hp⟩ := hr3.parts
        have := cell_of_heap hp.head.2 0 rfl
        have e1 : (N.ticks e).ref.time = N.now + e := ticks_now N e
        rw [e1, ← HT.out, Int.natCast_add] at this
        exact this
      have HM3 := Lib.hid hm3
      have HR3 := Lib.hid hr3
      clear t3 hm3 hr3
      cases hall : allB (N.ticks e) ls with
      | true =>
        have HALL := Lib.hid hall
        clear hall
        go_wp2_with fail
        go_ret3
        rw [HWG.out, waitGo_over HFST.out HALL.out]
        exact ⟨_, rfl, own', HR3.out, HM3.out, HG.out, rfl⟩
      | false =>
        have HALL := Lib.hid hall
        clear hall
        by_cases hlt : e < d
        · have hne : ((T : Int) + e == (T : Int) + d) = false := by simp; omega
          obtain ⟨r, hr0, hr1, hnx, hrc, hdue⟩ := leap HF.out hlt
          have hft1 : (N.ticks e).ref.lates.length < 549755813888 := by have h1 := ticks_len N e; show (N.ticks e).later.length < _; omega
          have hft2 : ∀ x ∈ (N.ticks e).ref.lates, x.lane < (N.ticks e).ref.nl := fun x hx => ((ticks_ok HF.out.fine.ok e).later x hx).1
          have hnext := next_any w3 own' G (N.ticks e).ref (N.now + d) HR3.out hft1
          rw [hnx, ← HT.out, Int.natCast_add, Int.natCast_add] at hnext
          have hreach := reach_any w3 own' G (N.ticks e).ref (N.now + (e + r)) HR3.out hft1 hft2
          rw [hrc, ← HT.out, Int.natCast_add] at hreach
          have hleap : Nt.waitGo ls d N = Nt.waitGo ls (d - (e + r)) (N.ticks (e + r)) := by
            have h1 := waitGo_leap (M := N.ticks e) (r := r) (k := gk) HFST.out HALL.out hr0 (by have := HEK.out; omega) (fun x hx => by have := hdue x hx; rw [ticks_now]; omega)
            rw [HWG.out, h1, ← ticks_add]
            congr 1
            have := HEK.out; omega
          have HNX := Lib.hid hnext
          have HRC := Lib.hid hreach
          obtain ⟨er, her⟩ : ∃ v, v = e + r := ⟨_, rfl⟩
          rw [← her] at HNX HRC hleap hr1
          have HLEAP := Lib.hid hleap
          have hgt : e < er := by omega
          clear hnx hrc hft1 hft2 hnext hreach hleap hdue her
          go_wp2_with fail
          (with_reducible refine HNX.out.mono ?_)
          rintro u w' ⟨rfl, rfl⟩
          go_wp2_with fail
          (with_reducible refine HRC.out.mono ?_)
          rintro u w4 ⟨rfl, own2, q1, q2, q3⟩
          have hm4 : Mv own.may w w4 := HM3.out.trans' q2 (fun b hb hh => HG.out.may hb hh)
          have hg4 : RGrows w.heap.size own own2 := HG.out.trans q3 HM3.out.size
          have Q1 := Lib.hid q1
          have HM4 := Lib.hid hm4
          have HG4 := Lib.hid hg4
          clear q1 q2 q3 hm4 hg4
          go_wp2_with fail
          go_roundg (d - er)
          case measure => have := HEK.out; omega
          case rel => exact ⟨er, own2, by omega, HLEAP.out, Q1.out, HM4.out, HG4.out⟩
        · have he : e = d := by have := HEK.out; omega
          subst he
          have hk0 : gk = 0 := by have := HEK.out; omega
          have hres : Nt.waitGo ls e N = ⟨0, none, 190, N.ticks e⟩ := by rw [HWG.out, hk0]; exact waitGo_zero HFST.out HALL.out
          have HRES := Lib.hid hres
          have hne : ((T : Int) + e == (T : Int) + e) = true := by simp
          clear hres hk0
          go_wp2_with fail
          go_ret3
          rw [HRES.out]
          exact ⟨_, rfl, own', HR3.out, HM3.out, HG.out, rfl⟩
end Go.Proofs.Ytadalodjnbnjkaa

/- The document's net: Wait, Any. -/
namespace Go.Proofs.Ytadalodjnbnjkaa
open Go.RowKit Go.Conc

/-- What a wait gives, the message and the error alone. -/
def RWaitedV (w : World) (own : ROwn) (G : Nat) (R : Wr) (e : Ending) (w' : World) : Prop :=
  ∃ u, e = .returned (.tuple #[u, .int .i64 R.err]) ∧ ∃ own', RefIs w' own' G R.net.ref ∧ Mv own.may w w' ∧ RGrows w.heap.size own own' ∧ match R.msg with
    | none => u = .slice none 0 0
    | some m => DatIs w' own' u m

section
variable {w : World} {own : ROwn} {G : Nat} {R : Rf}
theorem rWait_noLane (h : RefIs w own G R) (x : Int) (v : Value) (hx : x < 0 ∨ R.nl ≤ x) : Calls Try.prog 58 #[.pointer (some ⟨G, 0, none⟩), .int .i64 x, v] w fun e w' => e = .returned (.tuple #[.slice none 0 0, .int .i64 192]) ∧ w = w' := by
  have HI := Lib.hid (is_no h hx)
  clear h
  go_enter Try.func58, Try.ntmps58
  go_wp2_with (go_at_call 63; refine HI.out.mono ?_; rintro e w' ⟨rfl, rfl⟩)
  go_ret2
  exact ⟨rfl, rfl⟩
theorem rWait_badTicks (h : RefIs w own G R) (i : Nat) (t : Int) (hi : i < R.nl) (ht : t < 0 ∨ 65536 < t) : Calls Try.prog 58 #[.pointer (some ⟨G, 0, none⟩), .int .i64 i, .int .i64 t] w fun e w' => e = .returned (.tuple #[.slice none 0 0, .int .i64 1]) ∧ w = w' := by
  have HI := Lib.hid (is_yes h hi)
  clear h hi
  rcases ht with ht | ht
  · have d1 : decide (t < 0) = true := by simpa using ht
    go_enter Try.func58, Try.ntmps58
    go_wp2_with (go_at_call 63; refine HI.out.mono ?_; rintro e w' ⟨rfl, rfl⟩)
    go_ret2
    exact ⟨rfl, rfl⟩
  · have d1 : decide (t < 0) = false := by simp; omega
    have d2 : decide (t > 65536) = true := by simpa using ht
    go_enter Try.func58, Try.ntmps58
    go_wp2_with (go_at_call 63; refine HI.out.mono ?_; rintro e w' ⟨rfl, rfl⟩)
    go_ret2
    exact ⟨rfl, rfl⟩
end

set_option maxHeartbeats 800000 in
theorem rWait_ok (w : World) (own : ROwn) (G : Nat) (N : Nt) (i d : Nat) (h : RefIs w own G N.ref) (hf : FineR N) (hi : i < N.nl) (hd : d ≤ 65536) :
    Calls Try.prog 58 #[.pointer (some ⟨G, 0, none⟩), .int .i64 i, .int .i64 d] w (RWaitedV w own G (Nt.waitGo [i] d N)) := by
  have HI := Lib.hid (is_yes h (show i < N.ref.nl from hi))
  have d1 : decide ((d : Int) < 0) = false := by simp
  have d2 : decide ((d : Int) > 65536) = false := by simp; omega
  have hm : Mv (fun _ => False) w (w.alloc (.cells #[.int .i64 i] 3)) := (Mv.refl _ _).alloc _
  have hw : Calls Try.prog 67 #[.pointer (some ⟨G, 0, none⟩), .slice (some ⟨w.heap.size, 0, none⟩) 1 1, .int .i64 d] (w.alloc (.cells #[.int .i64 i] 3)) (RWaited (w.alloc (.cells #[.int .i64 i] 3)) own G (Nt.waitGo [i] d N)) := rwait_any (w.alloc (.cells #[.int .i64 i] 3)) own G N (some ⟨w.heap.size, 0, none⟩) 1 d [i] (h.still hm) hf (fun l hl => by simp at hl; rw [hl]; exact hi) (by simp) hd
    (.inr ⟨w.heap.size, 0, rfl, fun j hj => by
      have : j = 0 := by simp at hj; omega
      subst this
      exact cell_of_heap (heap_alloc_new w _) 0 rfl⟩)
    (fun ad _ ha => by cases ha; exact ⟨by simp, h.1.none (Nat.le_refl _)⟩)
  have HW := Lib.hid hw
  have HM := Lib.hid hm
  obtain ⟨R, hR⟩ : ∃ R, R = Nt.waitGo [i] d N := ⟨_, rfl⟩
  rw [← hR] at HW ⊢
  clear h hf hw hm hR
  go_enter Try.func58, Try.ntmps58
  go_wp2_with (go_at_call 63; refine HI.out.mono ?_; rintro e w' ⟨rfl, rfl⟩)
  (with_reducible refine HW.out.mono ?_)
  rintro e w2 ⟨u, rfl, own', r1, r2, r3, r4⟩
  have hres : RWaitedV w own G R (.returned (.tuple #[u, .int .i64 R.err])) w2 := ⟨u, rfl, own', r1, (HM.out.mono (G := own.may) (fun _ _ hh => hh.elim)).trans' r2 (fun _ _ hh => hh), ⟨fun b hb ho => r3.1 b (by simp; omega) ho, r3.2⟩, r4⟩
  have HRES := Lib.hid hres
  obtain ⟨ua, un, uc, rfl⟩ : ∃ ua un uc, u = .slice ua un uc := by
    cases hm : R.msg with
    | none => rw [hm] at r4; exact ⟨_, _, _, r4⟩
    | some m => rw [hm] at r4; obtain ⟨a, c, h1, _⟩ := r4; exact ⟨_, _, _, h1⟩
  clear r1 r2 r3 r4 hres
  go_wp2_with fail
  go_ret2
  exact HRES.out

/-! ### Any -/
/-- What Any refuses, and how. -/
def anyErr (nl : Nat) (zs : List Int) (t : Int) : Option Int :=
  if 64 < zs.length then some 2
  else if zs.any (fun z => decide (z < 0 ∨ (nl : Int) ≤ z)) then some 192
  else if zs = [] ∨ ¬ zs.Nodup ∨ t < 0 ∨ 65536 < t then some 1
  else none
def IntsIn (w : World) (a : Option Addr) (zs : List Int) : Prop := zs = [] ∨ ∃ b off, a = some ⟨b, off, none⟩ ∧ ∀ j, j < zs.length → w.cell? ⟨b, off + j, none⟩ = some (.int .i64 (zs.getD j 0))
def ReadE (w : World) (er : Int) (e : Ending) (w' : World) : Prop := e = .returned (.tuple #[.int .i64 0, .slice none 0 0, .int .i64 er]) ∧ Mv (fun _ => False) w w'
theorem IntsIn.lanes {w : World} {a : Option Addr} {zs : List Int} (h : IntsIn w a zs) (hz : ∀ z ∈ zs, 0 ≤ z) : LanesIn w a (zs.map Int.toNat) := by
  rcases h with rfl | ⟨b, off, rfl, hc⟩
  · exact .inl rfl
  · refine .inr ⟨b, off, rfl, fun j hj => ?_⟩
    rw [List.length_map] at hj
    rw [hc j hj]
    have e := hz _ (List.getElem_mem hj)
    simp [hj]
    omega
theorem any_bad_at {nl : Nat} {zs : List Int} {t : Int} {k : Nat} (h64 : ¬ 64 < zs.length) (hk : k < zs.length) (hb : zs.getD k 0 < 0 ∨ (nl : Int) ≤ zs.getD k 0) : anyErr nl zs t = some 192 := by
  unfold anyErr
  rw [if_neg h64, if_pos]
  rw [List.any_eq_true]
  exact ⟨zs.getD k 0, by rw [List.getD_eq_getElem?_getD, List.getElem?_eq_getElem hk]; exact List.getElem_mem hk, by simpa using hb⟩
theorem any_good {nl : Nat} {zs : List Int} (h : ∀ z ∈ zs, 0 ≤ z ∧ z < nl) : zs.any (fun z => decide (z < 0 ∨ (nl : Int) ≤ z)) = false := by
  rw [List.any_eq_false]
  intro z hz
  have := h z hz
  simp; omega
theorem not_nodup {zs : List Int} {i j : Nat} (hij : j < i) (hi : i < zs.length) (he : zs.getD i 0 = zs.getD j 0) : ¬ zs.Nodup := by
  intro hn
  have h1 := List.pairwise_iff_getElem.1 hn j i (by omega) hi hij
  rw [List.getD_eq_getElem?_getD, List.getD_eq_getElem?_getD, List.getElem?_eq_getElem hi, List.getElem?_eq_getElem (show j < zs.length by omega)] at he
  exact h1 (by simpa using he.symm)
theorem nodup_of {zs : List Int} (h : ∀ i, i < zs.length → ∀ j, j < i → zs.getD i 0 ≠ zs.getD j 0) : zs.Nodup := by
  refine List.pairwise_iff_getElem.2 fun i j hi hj hij e => ?_
  refine h j hj i hij ?_
  rw [List.getD_eq_getElem?_getD, List.getD_eq_getElem?_getD, List.getElem?_eq_getElem hi, List.getElem?_eq_getElem hj]
  simpa using e.symm

/-- What Any leaves on the document's net. -/
def RAny (w : World) (own : ROwn) (G : Nat) (N : Nt) (zs : List Int) (t : Int) (e : Ending) (w' : World) : Prop :=
  match anyErr N.nl zs t with
  | some er => ReadE w er e w'
  | none => RWaited w own G (Nt.waitGo (zs.map Int.toNat) t.toNat N) e w'

set_option maxRecDepth 100000 in
set_option maxHeartbeats 3200000 in
theorem rAny_any (w : World) (own : ROwn) (G : Nat) (N : Nt) (a : Option Addr) (n c : Nat) (zs : List Int) (t : Int) (h : RefIs w own G N.ref) (hf : FineR N) (hn : zs.length = n) (hnm : n ≤ 1099511627776) (hin : IntsIn w a zs) (hfree : ∀ ad, zs ≠ [] → a = some ad → ad.block < w.heap.size ∧ own ad.block = none) :
    Calls Try.prog 60 #[.pointer (some ⟨G, 0, none⟩), .slice a n c, .int .i64 t] w (RAny w own G N zs t) := by
  have H := Lib.hid h
  have HF := Lib.hid hf
  have HIN := Lib.hid hin
  have HFR := Lib.hid hfree
  have HN := Lib.hid hn
  clear h hf hin hfree hn
  by_cases h64 : 64 < n
  · have hres : anyErr N.nl zs t = some 2 := by unfold anyErr; rw [if_pos (by rw [HN.out]; exact h64)]
    have HRES := Lib.hid hres
    have hd : decide ((n : Int) > 64) = true := by simp; omega
    have hd2 : (64 : Int) < n := by omega
    clear hres
    go_enter Try.func60, Try.ntmps60
    go_wp2_with fail
    go_ret3
    unfold RAny
    rw [HRES.out]
    exact ⟨rfl, Mv.refl _ _⟩
  · have hd : decide ((n : Int) > 64) = false := by simp; omega
    have hd2 : (n : Int) ≤ 64 := by omega
    go_enter Try.func60, Try.ntmps60
    go_wp2_with fail
    go_loop [9, 10] (fun i bv => ∃ k : Nat, k ≤ n ∧ i = .int .i64 k ∧ ∀ z ∈ zs.take k, 0 ≤ z ∧ z < N.nl) (fun i _ => n - (intOf i).toNat)
    case atStart => exact ⟨0, Nat.zero_le _, rfl, fun z hz => by simp at hz⟩
    case round =>
      obtain ⟨k, hk, rfl, hgood⟩ := hrel
      have HGOOD := Lib.hid hgood
      clear hgood
      by_cases hlt : k < n
      · have hkk : (k : Int) < n := by omega
        have hk0 : (0 : Int) ≤ k := by omega
        have hkl : k < zs.length := by rw [HN.out]; exact hlt
        obtain ⟨b, off, rfl, hc⟩ := HIN.out.resolve_left (fun e => by rw [e] at hkl; simp at hkl)
        have hcell := hc k hkl
        obtain ⟨z, hz⟩ : ∃ z, z = zs.getD k 0 := ⟨_, rfl⟩
        rw [← hz] at hcell
        have HZ := Lib.hid hz
        have HKL := Lib.hid hkl
        clear hc hz hkl
        by_cases hb : z < 0 ∨ (N.nl : Int) ≤ z
        · have HI := Lib.hid (is_no H.out (x := z) (by exact hb))
          have hres : anyErr N.nl zs t = some 192 := any_bad_at (by rw [HN.out]; omega) HKL.out (by rw [← HZ.out]; exact hb)
          have HRES := Lib.hid hres
          clear hres hb
          go_wp2_with (go_at_call 63; refine HI.out.mono ?_; rintro e w' ⟨rfl, rfl⟩)
          go_ret3
          unfold RAny
          rw [HRES.out]
          exact ⟨rfl, Mv.refl _ _⟩
        · have hz2 : 0 ≤ z ∧ z < N.nl := by omega
          have his := is_yes H.out (i := z.toNat) (show z.toNat < N.nl by omega)
          rw [Int.toNat_of_nonneg hz2.1] at his
          have HI := Lib.hid his
          have hstep : ∀ y ∈ zs.take (k + 1), 0 ≤ y ∧ y < N.nl := fun y hy => by
            rw [List.take_succ_eq_append_getElem HKL.out] at hy
            simp only [List.mem_append, List.mem_singleton] at hy
            rcases hy with hy | rfl
            · exact HGOOD.out y hy
            · have : zs[k]'HKL.out = z := by rw [HZ.out, List.getD_eq_getElem?_getD, List.getElem?_eq_getElem HKL.out]; rfl
              rw [this]; exact hz2
          have HSTEP := Lib.hid hstep
          clear hstep hb hz2 his
          go_wp2_with (go_at_call 63; refine HI.out.mono ?_; rintro e w' ⟨rfl, rfl⟩)
          go_round
          case rel => exact ⟨k + 1, by omega, by go_num, HSTEP.out⟩
          case measure => simp [intOf]; omega
      · have hge : ¬ (k : Int) < n := by omega
        obtain rfl : k = n := by omega
        have hall : ∀ z ∈ zs, 0 ≤ z ∧ z < N.nl := by
          have := HGOOD.out
          rw [List.take_of_length_le (by rw [HN.out]; omega)] at this
          exact this
        have HALL := Lib.hid hall
        clear hall
        go_wp2_with fail
        go_loopw [11, 12] (fun iv jv wr => ∃ i : Nat, i ≤ k ∧ iv = .int .i64 i ∧ Mv (fun _ => False) w wr ∧ ∀ i', i' < i → ∀ j, j < i' → zs.getD i' 0 ≠ zs.getD j 0) (fun iv _ _ => k - (intOf iv).toNat)
        case atStart => exact ⟨0, Nat.zero_le _, rfl, Mv.refl _ _, fun i' hi => by omega⟩
        case round =>
          obtain ⟨i, hi, rfl, hmw, hnd⟩ := hrel
          have HMW := Lib.hid hmw
          have HND := Lib.hid hnd
          clear hmw hnd
          by_cases hlt2 : i < k
          · have hii : (i : Int) < k := by omega
            have hi0 : (0 : Int) ≤ i := by omega
            have hil : i < zs.length := by rw [HN.out]; exact hlt2
            obtain ⟨b, off, rfl, hc⟩ := HIN.out.resolve_left (fun e => by rw [e] at hil; simp at hil)
            have HC := Lib.hid hc
            have HIL := Lib.hid hil
            have hbl := World.block_lt_of_cell? _ _ (hc i hil)
            obtain ⟨z, hz⟩ : ∃ z, z = zs.getD i 0 := ⟨_, rfl⟩
            have HZ := Lib.hid hz
            clear hc hil hz
            obtain ⟨wo, rfl⟩ : ∃ wo : World, wo = wr := ⟨_, rfl⟩
            go_wp2_with fail
            go_loopw [12] (fun jv wr => ∃ j : Nat, j ≤ i ∧ jv = .int .i64 j ∧ Mv (fun _ => False) w wr ∧ ∀ j', j' < j → zs.getD i 0 ≠ zs.getD j' 0) (fun jv _ => i - (intOf jv).toNat)
            case atStart => exact ⟨0, Nat.zero_le _, rfl, HMW.out, fun j' hj => by omega⟩
            case round =>
              obtain ⟨j, hj, rfl, hmw2, hne⟩ := hrel
              have HMW2 := Lib.hid hmw2
              have HNE := Lib.hid hne
              by_cases hlt3 : j < i
              · have hjj : (j : Int) < i := by omega
                have hj0 : (0 : Int) ≤ j := by omega
                have hjk : (j : Int) < k := by omega
                obtain ⟨y, hy⟩ : ∃ y, y = zs.getD j 0 := ⟨_, rfl⟩
                have c1 : wr.cell? ⟨b, off + i, none⟩ = some (.int .i64 z) := by rw [HZ.out]; exact (hmw2.cell (p := ⟨b, off + i, none⟩) hbl id).trans (HC.out i HIL.out)
                have c2 : wr.cell? ⟨b, off + j, none⟩ = some (.int .i64 y) := by rw [hy]; exact (hmw2.cell (p := ⟨b, off + j, none⟩) hbl id).trans (HC.out j (by have := HIL.out; omega))
                have HY := Lib.hid hy
                clear hmw2 hne hy
                by_cases he : z = y
                · have he' : (z == y) = true := by simp [he]
                  have hres : anyErr N.nl zs t = some 1 := by
                    unfold anyErr
                    rw [if_neg (by rw [HN.out]; omega), if_neg (by rw [any_good HALL.out]; simp), if_pos (.inr (.inl (not_nodup hlt3 HIL.out (by rw [← HZ.out, ← HY.out]; exact he))))]
                  have HRES := Lib.hid hres
                  clear hres he
                  go_wp2_with fail
                  go_quiet (fail)
                  go_wp2_with fail
                  go_ret3
                  unfold RAny
                  rw [HRES.out]
                  exact ⟨rfl, HMW2.out.drewN _⟩
                · have he' : (z == y) = false := by simpa using he
                  have hstep : ∀ j', j' < j + 1 → zs.getD i 0 ≠ zs.getD j' 0 := fun j' hj' => by
                    rcases Nat.lt_or_ge j' j with h | h
                    · exact HNE.out j' h
                    · obtain rfl : j' = j := by omega
                      rw [← HZ.out, ← HY.out]; exact he
                  have HSTEP := Lib.hid hstep
                  clear hstep he
                  go_wp2_with fail
                  go_quiet (fail)
                  go_wp2_with fail
                  go_roundw
                  case rel => exact ⟨j + 1, by omega, by go_num, HMW2.out.drewN _, HSTEP.out⟩
                  case measure => simp [intOf]; omega
              · have hge3 : ¬ (j : Int) < i := by omega
                obtain rfl : j = i := by omega
                clear hmw2 hne
                have hstep : ∀ i', i' < j + 1 → ∀ j', j' < i' → zs.getD i' 0 ≠ zs.getD j' 0 := fun i' hi' j' hj' => by
                  rcases Nat.lt_or_ge i' j with h | h
                  · exact HND.out i' h j' hj'
                  · obtain rfl : i' = j := by omega
                    exact HNE.out j' hj'
                have HSTEP := Lib.hid hstep
                clear hstep
                go_wp2_with fail
                go_roundw
                case rel => exact ⟨j + 1, by omega, by go_num, HMW2.out, HSTEP.out⟩
                case measure => simp [intOf]; omega
          · have hge2 : ¬ (i : Int) < k := by omega
            obtain rfl : i = k := by omega
            have hnodup : zs.Nodup := nodup_of fun i' hi' => HND.out i' (by rw [← HN.out]; exact hi')
            have HNODUP := Lib.hid hnodup
            clear hnodup
            by_cases hbad : i = 0 ∨ t < 0 ∨ 65536 < t
            · have hres : anyErr N.nl zs t = some 1 := by
                unfold anyErr
                rw [if_neg (by rw [HN.out]; omega), if_neg (by rw [any_good HALL.out]; simp), if_pos]
                rcases hbad with h | h | h
                · exact .inl (List.eq_nil_of_length_eq_zero (HN.out.trans h))
                · exact .inr (.inr (.inl h))
                · exact .inr (.inr (.inr h))
              have HRES := Lib.hid hres
              clear hres
              by_cases hz0 : i = 0
              · have e0 : ((i : Int) == 0) = true := by simp [hz0]
                clear hbad hz0
                go_wp2_with fail
                go_ret3
                unfold RAny
                rw [HRES.out]
                exact ⟨rfl, HMW.out⟩
              · have e0 : ((i : Int) == 0) = false := by simp [hz0]
                by_cases ht0 : t < 0
                · have e1 : decide (t < 0) = true := by simpa using ht0
                  clear hbad hz0 ht0
                  go_wp2_with fail
                  go_ret3
                  unfold RAny
                  rw [HRES.out]
                  exact ⟨rfl, HMW.out⟩
                · have e1 : decide (t < 0) = false := by simp; omega
                  have e2 : decide (t > 65536) = true := by simp; omega
                  clear hbad hz0 ht0
                  go_wp2_with fail
                  go_ret3
                  unfold RAny
                  rw [HRES.out]
                  exact ⟨rfl, HMW.out⟩
            · have e0 : ((i : Int) == 0) = false := by simp; omega
              have e1 : decide (t < 0) = false := by simp; omega
              have e2 : decide (t > 65536) = false := by simp; omega
              have hres : anyErr N.nl zs t = none := by
                unfold anyErr
                rw [if_neg (by rw [HN.out]; omega), if_neg (by rw [any_good HALL.out]; simp), if_neg]
                rintro (h | h | h | h)
                · rw [h] at HN; exact hbad (.inl HN.out.symm)
                · exact h HNODUP.out
                · exact hbad (.inr (.inl h))
                · exact hbad (.inr (.inr h))
              obtain ⟨d, rfl⟩ : ∃ d : Nat, t = d := ⟨t.toNat, by omega⟩
              have hll : (zs.map Int.toNat).length = i := by rw [List.length_map, HN.out]
              have hwait := rwait_any wr own G N a c d (zs.map Int.toNat) (H.out.still HMW.out) HF.out (fun l hl => by
                obtain ⟨z, hz, rfl⟩ := List.mem_map.1 hl
                have := HALL.out z hz
                omega) (by rw [hll]; omega) (by omega) ((HIN.out.lanes fun z hz => (HALL.out z hz).1).still fun ad h1 h2 => HMW.out.block _ (HFR.out ad (fun e => h1 (by rw [e]; rfl)) h2).1 id)
                (fun ad h1 h2 => ⟨Nat.lt_of_lt_of_le (HFR.out ad (fun e => h1 (by rw [e]; rfl)) h2).1 HMW.out.size, (HFR.out ad (fun e => h1 (by rw [e]; rfl)) h2).2⟩)
              rw [hll] at hwait
              have HWT := Lib.hid hwait
              have HRES := Lib.hid hres
              clear hres hll hwait hbad
              go_wp2_with fail
              (with_reducible refine HWT.out.mono ?_)
              rintro e w2 ⟨u, rfl, own', r1, r2, r3, r4⟩
              have hfin : RAny w own G N zs (d : Int) (.returned (.tuple #[.int .i64 (Nt.waitGo (zs.map Int.toNat) d N).lane, u, .int .i64 (Nt.waitGo (zs.map Int.toNat) d N).err])) w2 := by
                unfold RAny
                rw [HRES.out]
                rw [Int.toNat_natCast]
                exact ⟨u, rfl, own', r1, (HMW.out.mono (G := own.may) (fun _ _ hh => hh.elim)).trans' r2 (fun _ _ hh => hh), ⟨fun b hb ho => r3.1 b (Nat.lt_of_lt_of_le hb HMW.out.size) ho, r3.2⟩, r4⟩
              have HFIN := Lib.hid hfin
              obtain ⟨R, hR⟩ : ∃ R, R = Nt.waitGo (zs.map Int.toNat) d N := ⟨_, rfl⟩
              rw [← hR] at r4 HFIN ⊢
              obtain ⟨ua, un, uc, rfl⟩ : ∃ ua un uc, u = .slice ua un uc := by
                cases hm : R.msg with
                | none => rw [hm] at r4; exact ⟨_, _, _, r4⟩
                | some m => rw [hm] at r4; obtain ⟨a, c, h1, _⟩ := r4; exact ⟨_, _, _, h1⟩
              clear r1 r2 r3 r4 hfin hR
              go_wp2_with fail
              go_ret3
              exact HFIN.out
end Go.Proofs.Ytadalodjnbnjkaa

/- What a net of a played script keeps, in numbers. -/
namespace Go.Proofs.Ytadalodjnbnjkaa
open Go.RowKit Go.Conc

/-- A net behind k steps. -/
structure PN (N : Nt) (k : Nat) : Prop where
  ok : Okn N
  due : DueL N
  now : N.now ≤ 65536 * k
  sent : N.sent ≤ k
  len : N.later.length ≤ k
  dues : ∀ x ∈ N.later, x.due ≤ 65536 * k + 1000
  nl : N.nl ≤ 64
  buf : ∀ i, ∀ m ∈ (N.lane i).buf, m.length ≤ 1048576
theorem PN.mono {N : Nt} {k k' : Nat} (h : PN N k) (hk : k ≤ k') : PN N k' where
  ok := h.ok
  due := h.due
  now := by have := h.now; omega
  sent := by have := h.sent; omega
  len := by have := h.len; omega
  dues := fun x hx => by have := h.dues x hx; omega
  nl := h.nl
  buf := h.buf
theorem PN.fineR {N : Nt} {k : Nat} (h : PN N k) (hk : k ≤ 1048576) : FineR N :=
  ⟨⟨h.ok, by have := h.now; omega, by have := h.len; omega, fun x hx => by have := h.dues x hx; omega⟩, h.due⟩
theorem PN.fit {N : Nt} {k : Nat} (h : PN N k) (hk : k ≤ 1048576) : Fit N :=
  ⟨h.ok.fates, by have := h.sent; omega, by have := h.now; omega, by have := h.len; omega, fun i hi => by rw [h.ok.coming i hi]; exact cnt_le i _⟩
theorem push_small {L : Lq} {m : List Int} (h : ∀ x ∈ L.buf, x.length ≤ 1048576) (hm : m.length ≤ 1048576) : ∀ x ∈ (L.push m).buf, x.length ≤ 1048576 := by
  intro x hx
  unfold Lq.push at hx
  simp only at hx
  split at hx
  · rcases List.mem_append.1 hx with hx | hx
    · exact h x hx
    · rw [List.mem_singleton.1 hx]; exact hm
  · exact h x hx
theorem PN.setLane {N : Nt} {k i : Nat} {L : Lq} (h : PN N k) (hc : L.coming = (N.lane i).coming) (hb : ∀ m ∈ L.buf, m.length ≤ 1048576) : PN { N with lane := setL N.lane i L } k where
  ok := ⟨h.ok.fates, h.ok.later, fun j hj => by
    show (setL N.lane i L j).coming = _
    by_cases e : j = i
    · subst e; rw [setL_same, hc]; exact h.ok.coming j hj
    · rw [setL_other _ _ e]; exact h.ok.coming j hj⟩
  due := h.due
  now := h.now
  sent := h.sent
  len := h.len
  dues := h.dues
  nl := h.nl
  buf := fun j m hm => by
    by_cases e : j = i
    · subst e
      have hm' : m ∈ (setL N.lane j L j).buf := hm
      rw [setL_same] at hm'
      exact hb m hm'
    · have hm' : m ∈ (setL N.lane i L j).buf := hm
      rw [setL_other _ _ e] at hm'
      exact h.buf j m hm'
theorem PN.pushed {N : Nt} {k : Nat} (h : PN N k) (i : Nat) {m : List Int} (hm : m.length ≤ 1048576) : PN (N.pushed i m) k := h.setLane rfl (push_small (h.buf i) hm)
theorem PN.closed {N : Nt} {k : Nat} (h : PN N k) (i : Nat) : PN (N.closed i) k := h.setLane rfl (h.buf i)
theorem PN.popped {N : Nt} {k : Nat} (h : PN N k) (i : Nat) : PN (N.popped i) k := h.setLane rfl (fun m hm => h.buf i m (List.mem_of_mem_tail hm))
theorem PN.took {N : Nt} {k : Nat} (h : PN N k) : PN N.took (k + 1) where
  ok := ⟨h.ok.fates, h.ok.later, h.ok.coming⟩
  due := h.due
  now := by have := h.now; show N.now ≤ _; omega
  sent := by have := h.sent; show N.sent + 1 ≤ _; omega
  len := by have := h.len; show N.later.length ≤ _; omega
  dues := fun x hx => by have := h.dues x hx; omega
  nl := h.nl
  buf := h.buf
theorem PN.delayed {N : Nt} {k i t : Nat} {m : List Int} (h : PN N (k + 1)) (hl : N.later.length ≤ k) (hi : i < N.nl) (ht0 : 0 < t) (ht : t ≤ 1000) (hm : m.length ≤ 1048576) : PN (N.delayed i t m) (k + 1) where
  ok := ⟨h.ok.fates, fun x hx => by
    rcases List.mem_append.1 hx with hx | hx
    · exact h.ok.later x hx
    · rw [List.mem_singleton.1 hx]; exact ⟨hi, hm⟩, fun j hj => by
    show (setL N.lane i _ j).coming = cnt j (N.later ++ [⟨N.now + t, i, m⟩])
    rw [cnt_append, cnt_cons, cnt_nil]
    by_cases e : j = i
    · subst e
      rw [setL_same]
      simp only [if_true]
      rw [h.ok.coming j hj]
    · rw [setL_other _ _ e, if_neg (fun e2 => e e2.symm)]
      exact h.ok.coming j hj⟩
  due := fun x hx => by
    rcases List.mem_append.1 hx with hx | hx
    · exact h.due x hx
    · rw [List.mem_singleton.1 hx]; show N.now < N.now + t; omega
  now := h.now
  sent := h.sent
  len := by show (N.later ++ [_]).length ≤ _; rw [List.length_append]; simp; omega
  dues := fun x hx => by
    rcases List.mem_append.1 hx with hx | hx
    · exact h.dues x hx
    · rw [List.mem_singleton.1 hx]; have := h.now; show N.now + t ≤ _; omega
  nl := h.nl
  buf := fun j x hx => by
    by_cases e : j = i
    · subst e
      have hx' : x ∈ (setL N.lane j { N.lane j with coming := (N.lane j).coming + 1 } j).buf := hx
      rw [setL_same] at hx'
      exact h.buf j x hx'
    · have hx' : x ∈ (setL N.lane i { N.lane i with coming := (N.lane i).coming + 1 } j).buf := hx
      rw [setL_other _ _ e] at hx'
      exact h.buf j x hx'
theorem PN.sendAt {N : Nt} {k i t : Nat} {m : List Int} (h : PN N (k + 1)) (hl : N.later.length ≤ k) (hi : i < N.nl) (ht : t ≤ 1000) (hm : m.length ≤ 1048576) : PN (N.sendAt i t m) (k + 1) := by
  unfold Nt.sendAt
  split
  · exact h.pushed i hm
  · exact h.delayed hl hi (by omega) ht hm
theorem PN.fated {N : Nt} {k i : Nat} {m : List Int} {f : Int × Int} (h : PN N (k + 1)) (hl : N.later.length ≤ k) (hi : i < N.nl) (hf : mayF f) (hm : m.length ≤ 1048576) : PN (N.fated i m f) (k + 1) := by
  unfold Nt.fated
  have hsp : (if f.2.toNat < m.length then spoilt m f.2.toNat else m).length ≤ 1048576 := by
    split
    · unfold spoilt; rw [List.length_set]; exact hm
    · exact hm
  split
  · exact h.pushed i hm
  split
  · exact h
  split
  · rename_i _ _ e2
    have : f.2.toNat ≤ 1000 := by rcases hf with e | e | ⟨_, e⟩ | ⟨e, _⟩ <;> omega
    exact (h.pushed i hm).sendAt hl hi this hm
  split
  · rename_i _ _ _ e3
    have : f.2.toNat ≤ 1000 := by rcases hf with e | e | ⟨_, e⟩ | ⟨e, _⟩ <;> omega
    exact h.sendAt hl hi this hm
  split
  · exact h.pushed i (by rw [List.length_take]; omega)
  · exact h.pushed i hsp
theorem PN.send {N : Nt} {k i : Nat} {m : List Int} (h : PN N k) (hi : i < N.nl) (hm : m.length ≤ 1048576) (hk : k ≤ 1048576) : PN (N.send i m) (k + 1) :=
  h.took.fated h.len hi (h.fit hk).may hm
theorem fold_small (nw : Nat) : ∀ (L : List Ml) (S : (Nat → Lq) × List Ml), (∀ i, ∀ m ∈ (S.1 i).buf, m.length ≤ 1048576) → (∀ x ∈ L, x.msg.length ≤ 1048576) → ∀ i, ∀ m ∈ ((L.foldl (tickStep nw) S).1 i).buf, m.length ≤ 1048576
  | [], S, h, _ => h
  | x :: L, S, h, hL => by
    refine fold_small nw L _ (fun i m hm => ?_) (fun y hy => hL y (List.mem_cons_of_mem _ hy))
    unfold tickStep at hm
    split at hm
    · exact h i m hm
    · by_cases e : i = x.lane
      · subst e
        simp only [setL_same] at hm
        exact push_small (h _) (hL x (List.mem_cons_self ..)) m hm
      · simp only [setL_other _ _ e] at hm
        exact h i m hm
theorem ticks_small {N : Nt} (hb : ∀ i, ∀ m ∈ (N.lane i).buf, m.length ≤ 1048576) (hl : ∀ x ∈ N.later, x.msg.length ≤ 1048576) : ∀ j i, ∀ m ∈ ((N.ticks j).lane i).buf, m.length ≤ 1048576
  | 0 => hb
  | j + 1 => fun i m hm => fold_small ((N.ticks j).now + 1) ((N.ticks j).later.take _) ((N.ticks j).lane, []) (ticks_small hb hl j) (fun x hx => hl x (ticks_mem N j x (List.mem_of_mem_take hx))) i m hm
theorem PN.ticks {N : Nt} {k : Nat} (h : PN N k) {j : Nat} (hj : j ≤ 65536) : PN (N.ticks j) (k + 1) where
  ok := ticks_ok h.ok j
  due := h.due.ticks j
  now := by rw [ticks_now]; have := h.now; omega
  sent := by rw [ticks_sent]; have := h.sent; omega
  len := by have := ticks_len N j; have := h.len; omega
  dues := fun x hx => by have := h.dues x (ticks_mem N j x hx); omega
  nl := by rw [ticks_nl]; exact h.nl
  buf := ticks_small h.buf (fun x hx => (h.ok.later x hx).2) j
theorem PN.waitGo {N : Nt} {k : Nat} (h : PN N k) (ls : List Nat) : ∀ (r j : Nat), j + r ≤ 65536 → PN (Nt.waitGo ls r (N.ticks j)).net (k + 1) ∧ ∀ m, (Nt.waitGo ls r (N.ticks j)).msg = some m → m.length ≤ 1048576
  | r, j, hj => by
    have hN := h.ticks (j := j) (by omega)
    cases e : fstO (N.ticks j) ls with
    | some l =>
      rw [waitGo_some e]
      exact ⟨hN.popped l, fun m hm => hN.buf l m (List.mem_of_mem_head? hm)⟩
    | none =>
      cases e2 : allB (N.ticks j) ls with
      | true =>
        rw [waitGo_over e e2]
        exact ⟨hN, fun m hm => by cases hm⟩
      | false =>
        cases r with
        | zero =>
          rw [waitGo_zero e e2]
          exact ⟨hN, fun m hm => by cases hm⟩
        | succ r =>
          rw [waitGo_succ e e2]
          exact PN.waitGo h ls r (j + 1) (by omega)
theorem PN.wait {N : Nt} {k : Nat} (h : PN N k) (ls : List Nat) {d : Nat} (hd : d ≤ 65536) : PN (Nt.waitGo ls d N).net (k + 1) ∧ ∀ m, (Nt.waitGo ls d N).msg = some m → m.length ≤ 1048576 := h.waitGo ls d 0 (by omega)
end Go.Proofs.Ytadalodjnbnjkaa
