/- does, walked: Send, Wait, Any, no kind; all of it. -/
import Derived.Test.YtadalodjnbnjkaaPlay24
namespace Go.Proofs.Ytadalodjnbnjkaa
open Go.RowKit Go.Conc

set_option maxRecDepth 100000 in
set_option maxHeartbeats 1600000 in
theorem does_send (w0 w : World) (pb bb k : Nat) (st : Nat → Option Side) (H : List Hd) (o : OpV) (s : Side) (h : Inv w0 w pb bb st H k) (hk1 : k ≤ 1048576) (ho : o.lies w0) (i : Nat) (hi : i < 2) (hb : bits BinOp.and IntKind.i64 o.net 1 = (i : Int)) (hs : st i = some s) (hk : o.kind = 1) :
    Calls Try.prog 43 #[.pointer (some ⟨pb, 0, none⟩), o.val] w (Does w0 pb bb k) := by
  obtain ⟨c0, c2, c4, c6⟩ := h.1.playCells hi hs
  have hpl := lt_of_heap h.1.play
  have hii : (i : Int) < 2 := by omega
  have hi0 : (0 : Int) ≤ i := by omega
  have HC := Lib.hid (sends_play w0 (w.alloc o.box) pb bb k st H o s (h.still ((Mv.refl _ _).alloc _)) hk1 ho i hi hs)
  obtain ⟨kind, net, lane, ticks, la, ln, lc, zs, da, dn, dc, m⟩ := o
  simp only [OpV.val, OpV.box] at hb hk HC ⊢
  subst hk
  clear h hs ho
  go_enter Try.func43, Try.ntmps43
  go_wp2_with (first | (go_at_call 50; refine HC.out.mono ?_; rintro e w' ⟨rfl, hd⟩; have HD := Lib.hid hd; clear hd))
  go_ret
  exact ⟨rfl, HD.out⟩
set_option maxRecDepth 100000 in
set_option maxHeartbeats 1600000 in
theorem does_wait (w0 w : World) (pb bb k : Nat) (st : Nat → Option Side) (H : List Hd) (o : OpV) (s : Side) (h : Inv w0 w pb bb st H k) (hk1 : k ≤ 1048576) (i : Nat) (hi : i < 2) (hb : bits BinOp.and IntKind.i64 o.net 1 = (i : Int)) (hs : st i = some s) (hk : o.kind = 2) :
    Calls Try.prog 43 #[.pointer (some ⟨pb, 0, none⟩), o.val] w (Does w0 pb bb k) := by
  obtain ⟨c0, c2, c4, c6⟩ := h.1.playCells hi hs
  have hpl := lt_of_heap h.1.play
  have hii : (i : Int) < 2 := by omega
  have hi0 : (0 : Int) ≤ i := by omega
  have HC := Lib.hid (waits_wait w0 (w.alloc o.box) pb bb k st H o s (h.still ((Mv.refl _ _).alloc _)) hk1 i hi hs hk)
  obtain ⟨kind, net, lane, ticks, la, ln, lc, zs, da, dn, dc, m⟩ := o
  simp only [OpV.val, OpV.box] at hb hk HC ⊢
  subst hk
  clear h hs
  go_enter Try.func43, Try.ntmps43
  go_wp2_with (first | (go_at_call 51; refine HC.out.mono ?_; rintro e w' ⟨rfl, hd⟩; have HD := Lib.hid hd; clear hd))
  go_ret
  exact ⟨rfl, HD.out⟩
set_option maxRecDepth 100000 in
set_option maxHeartbeats 1600000 in
theorem does_any (w0 w : World) (pb bb k : Nat) (st : Nat → Option Side) (H : List Hd) (o : OpV) (s : Side) (h : Inv w0 w pb bb st H k) (hk1 : k ≤ 1048576) (ho : o.lies w0) (i : Nat) (hi : i < 2) (hb : bits BinOp.and IntKind.i64 o.net 1 = (i : Int)) (hs : st i = some s) (hk : o.kind = 3) :
    Calls Try.prog 43 #[.pointer (some ⟨pb, 0, none⟩), o.val] w (Does w0 pb bb k) := by
  obtain ⟨c0, c2, c4, c6⟩ := h.1.playCells hi hs
  have hpl := lt_of_heap h.1.play
  have hii : (i : Int) < 2 := by omega
  have hi0 : (0 : Int) ≤ i := by omega
  have HC := Lib.hid (waits_any w0 (w.alloc o.box) pb bb k st H o s (h.still ((Mv.refl _ _).alloc _)) hk1 ho i hi hs hk)
  obtain ⟨kind, net, lane, ticks, la, ln, lc, zs, da, dn, dc, m⟩ := o
  simp only [OpV.val, OpV.box] at hb hk HC ⊢
  subst hk
  clear h hs ho
  go_enter Try.func43, Try.ntmps43
  go_wp2_with (first | (go_at_call 51; refine HC.out.mono ?_; rintro e w' ⟨rfl, hd⟩; have HD := Lib.hid hd; clear hd))
  go_ret
  exact ⟨rfl, HD.out⟩
set_option maxRecDepth 100000 in
set_option maxHeartbeats 1600000 in
theorem does_none (w0 w : World) (pb bb k : Nat) (st : Nat → Option Side) (H : List Hd) (o : OpV) (s : Side) (h : Inv w0 w pb bb st H k) (i : Nat) (hi : i < 2) (hb : bits BinOp.and IntKind.i64 o.net 1 = (i : Int)) (hs : st i = some s) (hk : o.kind < 1 ∨ 7 < o.kind) :
    Calls Try.prog 43 #[.pointer (some ⟨pb, 0, none⟩), o.val] w (Does w0 pb bb k) := by
  obtain ⟨c0, c2, c4, c6⟩ := h.1.playCells hi hs
  have hpl := lt_of_heap h.1.play
  have hii : (i : Int) < 2 := by omega
  have hi0 : (0 : Int) ≤ i := by omega
  obtain ⟨kind, net, lane, ticks, la, ln, lc, zs, da, dn, dc, m⟩ := o
  simp only [OpV.val] at hb hk ⊢
  have n1 : (kind == 1) = false := by simp; omega
  have n2 : (kind == 2) = false := by simp; omega
  have n3 : (kind == 3) = false := by simp; omega
  have n4 : (kind == 4) = false := by simp; omega
  have n5 : (kind == 5) = false := by simp; omega
  have n6 : (kind == 6) = false := by simp; omega
  have n7 : (kind == 7) = false := by simp; omega
  have m1 : ¬ kind = 1 := by omega
  have m2 : ¬ kind = 2 := by omega
  have m3 : ¬ kind = 3 := by omega
  have m4 : ¬ kind = 4 := by omega
  have m5 : ¬ kind = 5 := by omega
  have m6 : ¬ kind = 6 := by omega
  have m7 : ¬ kind = 7 := by omega
  have HI := Lib.hid h
  clear h hs
  go_enter Try.func43, Try.ntmps43
  go_wp2_with fail
  go_ret
  exact ⟨rfl, st, H, HI.out.same ((Mv.refl _ _).alloc _)⟩
theorem does_all (w0 w : World) (pb bb k : Nat) (st : Nat → Option Side) (H : List Hd) (o : OpV) (h : Inv w0 w pb bb st H k) (hk1 : k ≤ 1048576) (ho : o.lies w0) :
    Calls Try.prog 43 #[.pointer (some ⟨pb, 0, none⟩), o.val] w (Does w0 pb bb k) := by
  obtain ⟨i, hi, hb⟩ := side_of o.net
  cases hs : st i with
  | none => exact does_off w0 w pb bb k st H o h i hi hb hs
  | some s =>
    by_cases h0 : o.kind < 1 ∨ 7 < o.kind
    · exact does_none w0 w pb bb k st H o s h i hi hb hs h0
    · rcases (show o.kind = 1 ∨ o.kind = 2 ∨ o.kind = 3 ∨ o.kind = 4 ∨ o.kind = 5 ∨ o.kind = 6 ∨ o.kind = 7 by omega) with e | e | e | e | e | e | e
      · exact does_send w0 w pb bb k st H o s h hk1 ho i hi hb hs e
      · exact does_wait w0 w pb bb k st H o s h hk1 i hi hb hs e
      · exact does_any w0 w pb bb k st H o s h hk1 ho i hi hb hs e
      · exact does_pass w0 w pb bb k st H o s h hk1 i hi hb hs e
      · exact does_now w0 w pb bb k st H o s h i hi hb hs e
      · exact does_close w0 w pb bb k st H o s h i hi hb hs e
      · exact does_waiting w0 w pb bb k st H o s h i hi hb hs e
end Go.Proofs.Ytadalodjnbnjkaa
