/- does, walked: Close, Waiting. -/
import Derived.Test.YtadalodjnbnjkaaPlay23
namespace Go.Proofs.Ytadalodjnbnjkaa
open Go.RowKit Go.Conc

set_option maxRecDepth 100000 in
set_option maxHeartbeats 1600000 in
theorem does_close (w0 w : World) (pb bb k : Nat) (st : Nat → Option Side) (H : List Hd) (o : OpV) (s : Side) (h : Inv w0 w pb bb st H k) (i : Nat) (hi : i < 2) (hb : bits BinOp.and IntKind.i64 o.net 1 = (i : Int)) (hs : st i = some s) (hk : o.kind = 6) :
    Calls Try.prog 43 #[.pointer (some ⟨pb, 0, none⟩), o.val] w (Does w0 pb bb k) := by
  obtain ⟨c0, c2, c4, c6⟩ := h.1.playCells hi hs
  have hpl := lt_of_heap h.1.play
  have hii : (i : Int) < 2 := by omega
  have hi0 : (0 : Int) ≤ i := by omega
  have HP0 := Lib.hid (h.1.boxed o)
  obtain ⟨kind, net, lane, ticks, la, ln, lc, zs, da, dn, dc, m⟩ := o
  simp only [OpV.val] at hb hk ⊢
  subst hk
  have HI := Lib.hid h
  have HS := Lib.hid hs
  clear h hs
  go_enter Try.func43, Try.ntmps43
  go_wp2_with fail
  obtain ⟨W1, hW1⟩ : ∃ W, W = w.alloc (.cells #[.int .i64 6, .int .i64 net, .int .i64 lane, .int .i64 ticks, .slice la ln lc, .slice da dn dc] 107) := ⟨_, rfl⟩
  obtain ⟨B, hB⟩ : ∃ B, B = w.heap.size := ⟨_, rfl⟩
  rw [← hW1, ← hB]
  have hP := HP0.out
  simp only [OpV.box] at hP
  rw [← hW1, ← hB] at hP
  obtain ⟨d0, d2, b2, b3⟩ := hP.sees (o := ⟨6, net, lane, ticks, la, ln, lc, zs, da, dn, dc, m⟩) hi HS.out rfl rfl
  have HP := Lib.hid hP
  have hnum : ∀ (x : Int) W, Calls Try.prog 13 #[.int .i64 x] W fun e w' => e = .returned (.int .i64 x) ∧ W = w' := num_any
  have HNUM := Lib.hid hnum
  obtain ⟨pv, hpv⟩ : ∃ v, v = closeE s.N lane := ⟨_, rfl⟩
  have HC1 := Lib.hid (sep_close (HP.out.still ((Mv.refl _ _).drew)) HS.out lane)
  have HC2 : Hid (∀ W, PlaySep w0 W pb bb (updS st i (some { s with N := closeN s.N lane })) H (handRes (oneO B (OpV.box ⟨6, net, lane, ticks, la, ln, lc, zs, da, dn, dc, m⟩)) none 0 0 []) → Calls Try.prog 54 #[.pointer (some ⟨s.G, 0, none⟩), .int .i64 lane] W fun e w' => e = .returned (.int .i64 (closeE s.N lane)) ∧ PlaySep w0 w' pb bb (updS (updS st i (some { s with N := closeN s.N lane })) i (some { A := s.A, N := closeN s.N lane, G := s.G, R := (closeN s.N lane).ref })) H (handRes (oneO B (OpV.box ⟨6, net, lane, ticks, la, ln, lc, zs, da, dn, dc, m⟩)) none 0 0 [])) :=
    Lib.hid fun W hW => sep_rclose hW (updS_same _ _ _) (N := s.N) (HI.out.2.1 i s HS.out).1 lane
  rw [← hpv] at HC1 HC2
  have hee : ((pv : Int) == pv) = true := by simp
  clear hB hW1 c0 c2 c4 c6 hP HP0 hnum hpv
  simp only at b2 b3
  go_region_held3 (fun w' => w'.cell? ⟨pb, i, none⟩ = some (.pointer (some ⟨s.A.net, 0, none⟩)) ∧ w'.cell? ⟨B, 2, none⟩ = some (.int .i64 lane))
    (go_keep)
    (first
      | (go_at_call 25; refine HC1.out.mono ?_; rintro e w2 ⟨rfl, hP2⟩; obtain ⟨e0, e2, e3, e4⟩ := hP2.sees (o := ⟨6, net, lane, ticks, la, ln, lc, zs, da, dn, dc, m⟩) (t := s) hi (updS_same _ _ _) rfl rfl; simp only at e3 e4; have HP2 := Lib.hid hP2; clear hP2))
  go_wp2_with fail
  go_region_held3 (fun w' => w'.cell? ⟨pb, 2 + i, none⟩ = some (.pointer (some ⟨s.G, 0, none⟩)) ∧ w'.cell? ⟨B, 2, none⟩ = some (.int .i64 lane))
    (go_keep)
    (first
      | (go_at_call 54; refine (HC2.out _ (HP2.out.still ((Mv.refl _ _).drew))).mono ?_; rintro e w3 ⟨rfl, hP3⟩; obtain ⟨f0, f2, f3, f4⟩ := hP3.sees (o := ⟨6, net, lane, ticks, la, ln, lc, zs, da, dn, dc, m⟩) (t := s) hi (updS_same _ _ _) rfl rfl; simp only at f3 f4; have HP3 := Lib.hid hP3; clear hP3))
  go_wp2_with (first
    | (go_at_call 13; refine (HNUM.out _ _).mono ?_; rintro r w' ⟨rfl, rfl⟩))
  go_ret
  have hfin := HP3.out.drop
  rw [updS_twice] at hfin
  exact ⟨rfl, _, H, HI.out.step HS.out ((HI.out.2.1 i s HS.out).2.close lane) hfin (by have := HI.out.2.2.1; omega) HI.out.2.2.2⟩
set_option maxRecDepth 100000 in
set_option maxHeartbeats 1600000 in
theorem does_waiting (w0 w : World) (pb bb k : Nat) (st : Nat → Option Side) (H : List Hd) (o : OpV) (s : Side) (h : Inv w0 w pb bb st H k) (i : Nat) (hi : i < 2) (hb : bits BinOp.and IntKind.i64 o.net 1 = (i : Int)) (hs : st i = some s) (hk : o.kind = 7) :
    Calls Try.prog 43 #[.pointer (some ⟨pb, 0, none⟩), o.val] w (Does w0 pb bb k) := by
  obtain ⟨c0, c2, c4, c6⟩ := h.1.playCells hi hs
  have hpl := lt_of_heap h.1.play
  have hii : (i : Int) < 2 := by omega
  have hi0 : (0 : Int) ≤ i := by omega
  have HP0 := Lib.hid (h.1.boxed o)
  obtain ⟨kind, net, lane, ticks, la, ln, lc, zs, da, dn, dc, m⟩ := o
  simp only [OpV.val] at hb hk ⊢
  subst hk
  have HI := Lib.hid h
  have HS := Lib.hid hs
  clear h hs
  go_enter Try.func43, Try.ntmps43
  go_wp2_with fail
  obtain ⟨W1, hW1⟩ : ∃ W, W = w.alloc (.cells #[.int .i64 7, .int .i64 net, .int .i64 lane, .int .i64 ticks, .slice la ln lc, .slice da dn dc] 107) := ⟨_, rfl⟩
  obtain ⟨B, hB⟩ : ∃ B, B = w.heap.size := ⟨_, rfl⟩
  have hmv : Mv (fun _ => False) w W1 := by rw [hW1]; exact (Mv.refl _ _).alloc _
  rw [← hW1, ← hB]
  have hP := HP0.out
  simp only [OpV.box] at hP
  rw [← hW1, ← hB] at hP
  obtain ⟨d0, d2, b2, b3⟩ := hP.sees (o := ⟨7, net, lane, ticks, la, ln, lc, zs, da, dn, dc, m⟩) hi HS.out rfl rfl
  have HP := Lib.hid hP
  have HMV := Lib.hid hmv
  have hnum : ∀ (x : Int) W, Calls Try.prog 13 #[.int .i64 x] W fun e w' => e = .returned (.int .i64 x) ∧ W = w' := num_any
  have HNUM := Lib.hid hnum
  obtain ⟨p1, hp1⟩ : ∃ v, v = (waitingV s.N lane).1 := ⟨_, rfl⟩
  obtain ⟨p2, hp2⟩ : ∃ v, v = (waitingV s.N lane).2 := ⟨_, rfl⟩
  have HC1 : Hid (∀ W, Mv (fun _ => False) W1 W → Calls Try.prog 15 #[.pointer (some ⟨s.A.net, 0, none⟩), .int .i64 lane] W fun e w' => e = .returned (.tuple #[.int .i64 p1, .int .i64 p2]) ∧ W = w') := Lib.hid fun W hW => by rw [hp1, hp2]; exact sep_waiting (HP.out.still hW) HS.out lane
  have HC2 : Hid (∀ W, Mv (fun _ => False) W1 W → Calls Try.prog 55 #[.pointer (some ⟨s.G, 0, none⟩), .int .i64 lane] W fun e w' => e = .returned (.tuple #[.int .i64 p1, .int .i64 p2]) ∧ W = w') := Lib.hid fun W hW => by rw [hp1, hp2]; exact sep_rwaiting (HP.out.still hW) HS.out (HI.out.2.1 i s HS.out).1 lane
  have h1e : ((p1 : Int) == p1) = true := by simp
  have h2e : ((p2 : Int) == p2) = true := by simp
  have HQ1 : ∀ d, Calls Try.prog 15 #[.pointer (some ⟨s.A.net, 0, none⟩), .int .i64 lane] (W1.drewN d) fun e w' => e = .returned (.tuple #[.int .i64 p1, .int .i64 p2]) ∧ W1.drewN d = w' := fun d => HC1.out _ ((Mv.refl _ _).drewN d)
  have HQ2 : ∀ d, Calls Try.prog 55 #[.pointer (some ⟨s.G, 0, none⟩), .int .i64 lane] (W1.drewN d) fun e w' => e = .returned (.tuple #[.int .i64 p1, .int .i64 p2]) ∧ W1.drewN d = w' := fun d => HC2.out _ ((Mv.refl _ _).drewN d)
  have HH1 := Lib.hid HQ1
  have HH2 := Lib.hid HQ2
  clear hB hW1 c0 c2 c4 c6 hP HP0 hnum hp1 hp2 hmv HQ1 HQ2
  simp only at b2 b3
  go_quiet (first | (go_at_call 15; exact (HH1.out _).mono fun _ _ h => ⟨h.1, _, h.2.symm⟩))
  go_wp2_with fail
  go_quiet (first | (go_at_call 55; exact (HH2.out _).mono fun _ _ h => ⟨h.1, _, h.2.symm⟩))
  go_wp2_with (first
    | (go_at_call 13; refine (HNUM.out _ _).mono ?_; rintro r w' ⟨rfl, rfl⟩))
  go_ret
  exact ⟨rfl, st, H, HI.out.same (HMV.out.trans ((Mv.refl _ _).drewN _))⟩
end Go.Proofs.Ytadalodjnbnjkaa

/- sends, walked. -/
namespace Go.Proofs.Ytadalodjnbnjkaa
open Go.RowKit Go.Conc

section
variable {w0 w w' : World} {pb bb i k : Nat} {st : Nat → Option Side} {H : List Hd} {s : Side} {O : Nat → Option Obj}
/-- What the regions that call read: the play's pointers, the box's fields. -/
def SeesO (w : World) (pb bb B i : Nat) (s : Side) (o : OpV) : Prop :=
  w.cell? ⟨pb, i, none⟩ = some (.pointer (some ⟨s.A.net, 0, none⟩)) ∧ w.cell? ⟨pb, 2 + i, none⟩ = some (.pointer (some ⟨s.G, 0, none⟩)) ∧ w.cell? ⟨pb, 6, none⟩ = some (.pointer (some ⟨bb, 0, none⟩)) ∧
    w.cell? ⟨B, 2, none⟩ = some (.int .i64 o.lane) ∧ w.cell? ⟨B, 3, none⟩ = some (.int .i64 o.ticks) ∧ w.cell? ⟨B, 4, none⟩ = some (.slice o.la o.ln o.lc) ∧ w.cell? ⟨B, 5, none⟩ = some (.slice o.da o.dn o.dc)
theorem PlaySep.seesO {B : Nat} {o : OpV} {a : Option Addr} {n c : Nat} {l : List Int} {t : Side} (h : PlaySep w0 w pb bb st H (handRes O a n c l)) (hB : O B = some o.box) (hi : i < 2) (hs : st i = some s) (h1 : s.A.net = t.A.net) (h2 : s.G = t.G) : SeesO w pb bb B i t o := by
  obtain ⟨q1, q2, _, q4⟩ := h.playCells hi hs
  rw [h1] at q1
  rw [h2] at q2
  have hb := h.handBlock hB
  exact ⟨q1, q2, q4, cell_of_heap hb 2 rfl, cell_of_heap hb 3 rfl, cell_of_heap hb 4 rfl, cell_of_heap hb 5 rfl⟩
/-- Of what is in hand one block is kept. -/
theorem PlaySep.only {g : Nat} {o : Obj} {a : Option Addr} {n c : Nat} {l : List Int} (h : PlaySep w0 w pb bb st H (handRes O a n c l)) (hg : O g = some o) : PlaySep w0 w pb bb st H (blkRes g o) := by
  have hb := h.handBlock hg
  obtain ⟨F, hF⟩ := h
  obtain ⟨⟨_, _, _⟩, h3⟩ : ((∀ b o, O b = some o → w.heap[b]? = some o ∧ ¬ Blk a b) ∧ LstIs w a n c ∧ RowIn w a n l) ∧ ∀ b, F .hand b ↔ (O b ≠ none ∨ Blk a b) := hF.hold .hand
  refine hF.handTurn (Fh := fun b => b = g) (Mv.refl _ _) ⟨hb, fun b => Iff.rfl⟩ (fun b e => ?_)
  subst e
  have := (h3 b).2 (.inl (by rw [hg]; simp))
  exact ⟨(hF.within .hand b this).2, .inl this⟩
theorem Inv.still (h : Inv w0 w pb bb st H k) (hm : Mv (fun _ => False) w w') : Inv w0 w' pb bb st H k := ⟨h.1.still hm, h.2⟩
def twoO (B : Nat) (o : Obj) (g : Nat) (o' : Obj) : Nat → Option Obj := fun b => if b = g then some o' else oneO B o b
end

set_option maxRecDepth 100000 in
set_option maxHeartbeats 1600000 in
theorem sends_play (w0 w : World) (pb bb k : Nat) (st : Nat → Option Side) (H : List Hd) (o : OpV) (s : Side) (h : Inv w0 w pb bb st H k) (hk1 : k ≤ 1048576) (ho : o.lies w0) (i0 : Nat) (hi : i0 < 2) (hs : st i0 = some s) :
    Calls Try.prog 50 #[.pointer (some ⟨pb, 0, none⟩), .int .i64 i0, o.val] w (Does w0 pb bb k) := by
  have hii : (i0 : Int) < 2 := by omega
  have hi00 : (0 : Int) ≤ i0 := by omega
  have HP0 := Lib.hid (h.1.boxed o)
  have hbx : (oneO w.heap.size o.box) w.heap.size = some o.box := if_pos rfl
  have hdl := ho.dataLow
  obtain ⟨_, _, _, hrow, hdn⟩ := id ho
  have HO := Lib.hid ho
  obtain ⟨d0, d2, d6, b2, b3, b4, b5⟩ := HP0.out.seesO hbx hi hs rfl rfl
  have hlr := hrow.still HP0.out.below
  obtain ⟨kind, net, lane, ticks, la, ln, lc, zs, da, dn, dc, m⟩ := o
  simp only [OpV.val, OpV.box] at HP0 hrow hdn d0 d2 d6 b2 b3 b4 b5 hlr hdl ⊢
  obtain ⟨W1, hW1⟩ : ∃ W, W = w.alloc (.cells #[.int .i64 kind, .int .i64 net, .int .i64 lane, .int .i64 ticks, .slice la ln lc, .slice da dn dc] 107) := ⟨_, rfl⟩
  obtain ⟨B, hB⟩ : ∃ B, B = w.heap.size := ⟨_, rfl⟩
  rw [← hW1, ← hB] at HP0
  rw [← hW1] at d0 d2 d6 b2 b3 b4 b5 hlr
  rw [← hB] at b2 b3 b4 b5
  have HI := Lib.hid h
  have HS := Lib.hid hs
  have HROW := Lib.hid hrow
  have HDL := Lib.hid hdl
  have HLR := Lib.hid hlr
  have hdnI : (dn : Int) ≤ 1048576 := by omega
  have hnum : ∀ (x : Int) W, Calls Try.prog 13 #[.int .i64 x] W fun e w' => e = .returned (.int .i64 x) ∧ W = w' := num_any
  have HNUM := Lib.hid hnum
  clear h hs ho hrow hdl hlr hnum hbx
  have hd0 : (0 : Int) ≤ (dn : Int) := by omega
  have hd2 : (dn : Int) ≤ (dn : Int) + 200 := by omega
  go_enter Try.func50, Try.ntmps50
  go_wp2_with fail
  rw [← hW1, ← hB]
  refine (lent_any W1 da dn dc m HLR.out (by omega)).mono ?_
  rintro e W2 ⟨g, cur, rfl, hg1, hbel, hgo, hcs, hc1, hc2⟩
  have hmv2 := Mv.of_below hbel
  have HP2 := Lib.hid (HP0.out.putHand hmv2 hg1 hgo)
  have HC1 := Lib.hid hc1
  have HC2 := Lib.hid hc2
  have HCS := Lib.hid hcs
  have hW12 : ∀ p : Addr, p.block < W1.heap.size → W2.cell? p = W1.cell? p := fun p hp => hmv2.cell hp id
  have hBl : B < W1.heap.size := World.block_lt_of_cell? _ _ b2
  have hpl : pb < W1.heap.size := World.block_lt_of_cell? _ _ d0
  have hBg : B ≠ g := by omega
  have HBG := Lib.hid hBg
  have x0 := (hW12 ⟨pb, i0, none⟩ hpl).trans d0
  have x2 := (hW12 ⟨B, 2, none⟩ hBl).trans b2
  have x5 := (hW12 ⟨B, 5, none⟩ hBl).trans b5
  have HLR2 := Lib.hid (HLR.out.still hbel)
  clear hB hW1 d0 d2 d6 b2 b3 b4 b5 hW12 hmv2 hbel hcs hc1 hc2 hgo hBg hg1
  obtain ⟨O, hO⟩ : ∃ O : Nat → Option Obj, O = fun b => if b = g then some (.cells cur 5 (0, 0)) else oneO B (.cells #[.int .i64 kind, .int .i64 net, .int .i64 lane, .int .i64 ticks, .slice la ln lc, .slice da dn dc] 107) b := ⟨_, rfl⟩
  rw [← hO] at HP2
  have HOB : Hid (O B = some (OpV.box ⟨kind, net, lane, ticks, la, ln, lc, zs, da, dn, dc, m⟩)) := Lib.hid (by rw [hO]; simp only [if_neg HBG.out]; exact if_pos rfl)
  have HOG : Hid (O g = some (.cells cur 5 (0, 0))) := Lib.hid (by rw [hO]; exact if_pos rfl)
  clear hO
  go_wp2_with fail
  have hml : m.length = dn := HROW.out.1
  have HML := Lib.hid hml
  obtain ⟨pv, hpv⟩ : ∃ v, v = closeE s.N lane := ⟨_, rfl⟩
  have HS1 : Hid (∀ W, PlaySep w0 W pb bb st H (handRes O none 0 0 []) → Calls Try.prog 18 #[.pointer (some ⟨s.A.net, 0, none⟩), .int .i64 lane, .slice (some ⟨g, 0, none⟩) dn (dn + 200)] W fun e w' => e = .returned (.int .i64 pv) ∧ PlaySep w0 w' pb bb (updS st i0 (some { s with N := sendN s.N lane m })) H (handRes O none 0 0 [])) :=
    Lib.hid fun W hW => by
      rw [hpv]
      exact sep_sendO hW HOG.out HS.out (HI.out.2.1 i0 s HS.out).2 hk1 lane HML.out hdn (by omega) (fun j hj => cell_of_heap (hW.handBlock HOG.out) j (HC1.out j hj))
  have HS2 : Hid (∀ W, PlaySep w0 W pb bb (updS st i0 (some { s with N := sendN s.N lane m })) H (handRes O none 0 0 []) → Calls Try.prog 56 #[.pointer (some ⟨s.G, 0, none⟩), .int .i64 lane, .slice da dn dc] W fun e w' => e = .returned (.int .i64 pv) ∧ PlaySep w0 w' pb bb (updS (updS st i0 (some { s with N := sendN s.N lane m })) i0 (some { A := s.A, N := sendN s.N lane m, G := s.G, R := (sendN s.N lane m).ref })) H (handRes O none 0 0 [])) :=
    Lib.hid fun W hW => by
      rw [hpv]
      exact sep_rsend hW (updS_same _ _ _) (N := s.N) (HI.out.2.1 i0 s HS.out).1 (HI.out.2.1 i0 s HS.out).2 hk1 lane hdn HROW.out HDL.out
  have hee : ((pv : Int) == pv) = true := by simp
  clear hml hpv
  go_region_held3 (fun w' => w'.cell? ⟨pb, i0, none⟩ = some (.pointer (some ⟨s.A.net, 0, none⟩)) ∧ w'.cell? ⟨B, 2, none⟩ = some (.int .i64 lane) ∧ w'.cell? ⟨B, 5, none⟩ = some (.slice da dn dc))
    (go_keep)
    (first
      | (go_at_call 18; refine (HS1.out _ (HP2.out.still ((Mv.refl _ _).drew))).mono ?_; rintro e w3 ⟨rfl, hP3⟩; obtain ⟨e0, e2, e6, e3, e4, e5, e7⟩ := hP3.seesO (t := s) HOB.out hi (updS_same _ _ _) rfl rfl; simp only at e3 e4 e5 e7; have HP3 := Lib.hid hP3; clear hP3))
  go_wp2_with fail
  go_region_held3 (fun w' => w'.cell? ⟨pb, 2 + i0, none⟩ = some (.pointer (some ⟨s.G, 0, none⟩)) ∧ w'.cell? ⟨B, 2, none⟩ = some (.int .i64 lane) ∧ w'.cell? ⟨B, 5, none⟩ = some (.slice da dn dc))
    (go_keep)
    (first
      | (go_at_call 56; refine (HS2.out _ (HP3.out.still ((Mv.refl _ _).drew))).mono ?_; rintro e w4 ⟨rfl, hP4⟩; obtain ⟨f0, f2, f6, f3, f4, f5, f7⟩ := hP4.seesO (t := s) HOB.out hi (updS_same _ _ _) rfl rfl; simp only at f3 f4 f5 f7; have HP4 := Lib.hid hP4; clear hP4))
  go_wp2_with fail
  have hQ1 : ∀ n, Calls Try.prog 22 #[.slice (some ⟨g, 0, none⟩) dn (dn + 200), .slice da dn dc] (w4.drewN n) fun e w' => e = .returned (.bool true) ∧ ∃ m, w' = w4.drewN m := fun n => by
    have hp := HP4.out.still ((Mv.refl _ _).drewN n)
    have := same_any (w4.drewN n) (some ⟨g, 0, none⟩) da dn (dn + 200) dn dc m m ⟨HML.out, .inr ⟨g, 0, rfl, fun j hj => by rw [Nat.zero_add]; exact cell_of_heap (hp.handBlock HOG.out) j (HC1.out j hj)⟩⟩ (HROW.out.still hp.below) (by omega)
    rw [sameB_self] at this
    refine this.mono ?_
    rintro e w' ⟨h1, d, h2⟩
    exact ⟨h1, n + d, by rw [h2, World.drewN_drewN]⟩
  have hQ2 : ∀ n, Calls Try.prog 57 #[.slice (some ⟨g, 0, none⟩) (dn + 200) (dn + 200), .int .i64 dn] (w4.drewN n) fun e w' => e = .returned (.bool true) ∧ ∃ m, w' = w4.drewN m := fun n => by
    have hp := HP4.out.still ((Mv.refl _ _).drewN n)
    refine (unspoilt_any (w4.drewN n) g dn (dn + 200) (dn + 200) (by omega) (by omega) (fun j h1 h2 => cell_of_heap (hp.handBlock HOG.out) j (HC2.out j h1 h2))).mono ?_
    rintro e w' ⟨h1, h2⟩
    exact ⟨h1, n, h2⟩
  have HQ1 := Lib.hid hQ1
  have HQ2 := Lib.hid hQ2
  clear hQ1 hQ2
  go_quiet (first | (go_at_call 22; exact HQ1.out _) | (go_at_call 57; exact HQ2.out _))
  go_wp2_with fail
  go_loopw [11] (fun i wr => ∃ k : Nat, k ≤ dn + 200 ∧ i = .int .i64 k ∧ ∃ c' : Array Value, c'.size = dn + 200 ∧ PlaySep w0 wr pb bb (updS (updS st i0 (some { s with N := sendN s.N lane m })) i0 (some { A := s.A, N := sendN s.N lane m, G := s.G, R := (sendN s.N lane m).ref })) H (blkRes g (.cells c' 5 (0, 0)))) (fun i _ => dn + 200 - (intOf i).toNat)
  case atStart => exact ⟨0, Nat.zero_le _, rfl, cur, HCS.out, (HP4.out.only HOG.out).still ((Mv.refl _ _).drewN _)⟩
  case round =>
    obtain ⟨j, hj, rfl, c', hc', hp⟩ := hrel
    have HJ := Lib.hid hp
    have HCJ := Lib.hid hc'
    clear hp hc'
    by_cases hlt : j < dn + 200
    · obtain ⟨v0, hv0⟩ : ∃ v, wr.cell? ⟨g, j, none⟩ = some v := ⟨_, cell_of_heap HJ.out.block j (Array.getElem?_eq_getElem (by rw [HCJ.out]; exact hlt))⟩
      have hf0 := free_of_heap HJ.out.block j
      have hjj : (j : Int) < (dn : Int) + 200 := by omega
      have hj0 : (0 : Int) ≤ j := by omega
      go_wp2
      have HN := Lib.hid (HJ.out.wrote (w' := wr.setCell ⟨g, j, none⟩ (.int .u8 238)) ((Mv.refl (fun b => b = g) wr).setCell (p := ⟨g, j, none⟩) (.inl rfl) (.int .u8 238)) (heap_setCell_same HJ.out.block _))
      go_roundw
      case rel => exact ⟨j + 1, by omega, by go_num, _, by rw [Array.size_setIfInBounds]; exact HCJ.out, HN.out⟩
      case measure => simp [intOf]; omega
    · have hjj : ¬ (j : Int) < (dn : Int) + 200 := by omega
      go_wp2_with (first
        | (go_at_call 13; refine (HNUM.out _ _).mono ?_; rintro r w' ⟨rfl, rfl⟩))
      go_ret
      have hfin := HJ.out.drop
      rw [updS_twice] at hfin
      exact ⟨rfl, _, H, HI.out.step HS.out ((HI.out.2.1 i0 s HS.out).2.sendN lane (by have := HML.out; omega) hk1) hfin (by have := HI.out.2.2.1; omega) HI.out.2.2.2⟩
end Go.Proofs.Ytadalodjnbnjkaa

/- waits, walked: Wait. -/
namespace Go.Proofs.Ytadalodjnbnjkaa
open Go.RowKit Go.Conc

set_option maxRecDepth 100000 in
set_option maxHeartbeats 1600000 in
theorem waits_wait (w0 w : World) (pb bb k : Nat) (st : Nat → Option Side) (H : List Hd) (o : OpV) (s : Side) (h : Inv w0 w pb bb st H k) (hk1 : k ≤ 1048576) (i0 : Nat) (hi : i0 < 2) (hs : st i0 = some s) (hk : o.kind = 2) :
    Calls Try.prog 51 #[.pointer (some ⟨pb, 0, none⟩), .int .i64 i0, o.val] w (Does w0 pb bb k) := by
  have hii : (i0 : Int) < 2 := by omega
  have hi00 : (0 : Int) ≤ i0 := by omega
  have HP0 := Lib.hid (h.1.boxed o)
  have hbx : (oneO w.heap.size o.box) w.heap.size = some o.box := if_pos rfl
  obtain ⟨d0, d2, d6, b2, b3, b4, b5⟩ := HP0.out.seesO hbx hi hs rfl rfl
  obtain ⟨kind, net, lane, ticks, la, ln, lc, zs, da, dn, dc, m⟩ := o
  simp only [OpV.val, OpV.box] at HP0 d0 d2 d6 b2 b3 b4 b5 hk hbx ⊢
  subst hk
  obtain ⟨W1, hW1⟩ : ∃ W, W = w.alloc (.cells #[.int .i64 2, .int .i64 net, .int .i64 lane, .int .i64 ticks, .slice la ln lc, .slice da dn dc] 107) := ⟨_, rfl⟩
  obtain ⟨B, hB⟩ : ∃ B, B = w.heap.size := ⟨_, rfl⟩
  rw [← hW1, ← hB] at HP0
  rw [← hW1] at d0 d2 d6 b2 b3 b4 b5
  rw [← hB] at b2 b3 b4 b5 hbx
  obtain ⟨O, hO⟩ : ∃ O : Nat → Option Obj, O = oneO B (.cells #[.int .i64 2, .int .i64 net, .int .i64 lane, .int .i64 ticks, .slice la ln lc, .slice da dn dc] 107) := ⟨_, rfl⟩
  rw [← hO] at HP0 hbx
  have HOB : Hid (O B = some (OpV.box ⟨2, net, lane, ticks, la, ln, lc, zs, da, dn, dc, m⟩)) := Lib.hid hbx
  have HI := Lib.hid h
  have HS := Lib.hid hs
  have hnum : ∀ (x : Int) W, Calls Try.prog 13 #[.int .i64 x] W fun e w' => e = .returned (.int .i64 x) ∧ W = w' := num_any
  have HNUM := Lib.hid hnum
  obtain ⟨R, hR⟩ : ∃ R, R = waitR s.N lane ticks := ⟨_, rfl⟩
  obtain ⟨ev, hev⟩ : ∃ v, v = R.err := ⟨_, rfl⟩
  obtain ⟨msg, hmsg⟩ : ∃ v, v = R.msg := ⟨_, rfl⟩
  obtain ⟨N', hN'⟩ : ∃ v, v = R.net := ⟨_, rfl⟩
  have hpn := (HI.out.2.1 i0 s HS.out).2.waitR lane ticks
  rw [← hR, ← hmsg, ← hN'] at hpn
  have HPN := Lib.hid hpn
  have HS1 : Hid (∀ W, PlaySep w0 W pb bb st H (handRes O none 0 0 []) → Calls Try.prog 19 #[.pointer (some ⟨s.A.net, 0, none⟩), .int .i64 lane, .int .i64 ticks] W fun e w' => ∃ v, e = .returned (.tuple #[v, .int .i64 ev]) ∧ CameO w0 w' pb bb (updS st i0 (some { s with N := N' })) H O msg v) :=
    Lib.hid fun W hW => by
      rw [hev, hN', hmsg, hR]
      exact sep_waitO hW HS.out (HI.out.2.1 i0 s HS.out).2 hk1 lane ticks
  have HS2 : Hid (∀ W hand, PlaySep w0 W pb bb (updS st i0 (some { s with N := N' })) H hand → Calls Try.prog 58 #[.pointer (some ⟨s.G, 0, none⟩), .int .i64 lane, .int .i64 ticks] W fun e w' => ∃ v, e = .returned (.tuple #[v, .int .i64 ev]) ∧ RCame w0 w' pb bb (updS (updS st i0 (some { s with N := N' })) i0 (some { A := s.A, N := N', G := s.G, R := N'.ref })) H hand msg v) :=
    Lib.hid fun W hand hW => by
      have := sep_rwait hW (updS_same _ _ _) (N := s.N) (HI.out.2.1 i0 s HS.out).1 (HI.out.2.1 i0 s HS.out).2 hk1 lane ticks
      rw [← hR, ← hev, ← hN', ← hmsg] at this
      exact this
  have hee : ((ev : Int) == ev) = true := by simp
  clear h hs hnum hbx hO hR hev hmsg hN' hpn
  have HB := Lib.hid hB
  have HW1 := Lib.hid hW1
  clear hB hW1
  go_enter Try.func51, Try.ntmps51
  go_wp2_with fail
  rw [← HW1.out, ← HB.out]
  go_region_held3 (fun w' => w'.cell? ⟨pb, i0, none⟩ = some (.pointer (some ⟨s.A.net, 0, none⟩)) ∧ w'.cell? ⟨B, 2, none⟩ = some (.int .i64 lane) ∧ w'.cell? ⟨B, 3, none⟩ = some (.int .i64 ticks))
    (go_keep)
    (first
      | (go_at_call 19; refine (HS1.out _ (HP0.out.still ((Mv.refl _ _).drew))).mono ?_; rintro e w3 ⟨v, rfl, a, n, c, rfl, hn, hP3⟩; obtain ⟨e0, e2, e6, e3, e4, e5, e7⟩ := hP3.seesO (t := s) HOB.out hi (updS_same _ _ _) rfl rfl; simp only at e3 e4 e5 e7; have HP3 := Lib.hid hP3; have HN := Lib.hid hn; clear hP3 hn))
  go_wp2_with fail
  go_region_held3 (fun w' => w'.cell? ⟨pb, 2 + i0, none⟩ = some (.pointer (some ⟨s.G, 0, none⟩)) ∧ w'.cell? ⟨B, 2, none⟩ = some (.int .i64 lane) ∧ w'.cell? ⟨B, 3, none⟩ = some (.int .i64 ticks))
    (go_keep)
    (first
      | (go_at_call 58; refine (HS2.out _ _ (HP3.out.still ((Mv.refl _ _).drew))).mono ?_; rintro e w4 ⟨v', rfl, hP4, a', n', c', rfl, hn', hrow'⟩; obtain ⟨f0, f2, f6, f3, f4, f5, f7⟩ := hP4.seesO (t := s) HOB.out hi (updS_same _ _ _) rfl rfl; simp only at f3 f4 f5 f7; have HP4 := Lib.hid hP4; have HN' := Lib.hid hn'; have HROW' := Lib.hid hrow'; clear hP4 hn' hrow'))
  have hnb : (msg.getD []).length ≤ 1048576 := by
    cases e : msg with
    | none => exact Nat.zero_le _
    | some m => exact HPN.out.2 m e
  have HNB := Lib.hid hnb
  clear hnb
  have hsame : Calls Try.prog 22 #[.slice a n c, .slice a' n' c'] w4 fun e w' => e = .returned (.bool true) ∧ ∃ d, w' = w4.drewN d := by
    have := same_any w4 a a' n c n' c' _ _ HP4.out.handMsg.reads HROW'.out (by have := HNB.out; have := HN.out; omega)
    rw [sameB_self] at this
    exact this
  have HSAME := Lib.hid hsame
  clear hsame
  go_wp2_with (first
    | (go_at_call 13; refine (HNUM.out _ _).mono ?_; rintro r w' ⟨rfl, rfl⟩)
    | (go_at_call 22; refine HSAME.out.mono ?_; rintro r w' ⟨rfl, d, rfl⟩))
  refine ((HP4.out.still ((Mv.refl _ _).drewN d)).handMsg.lst.held (by have := HNB.out; have := HN.out; omega) (by have := HI.out.2.2.1; omega)).mono ?_
  rintro e w6 ⟨rfl, x, hx, hP6⟩
  have HP6 := Lib.hid hP6
  have HX := Lib.hid hx
  clear hP6 hx
  go_wp2_with fail
  go_ret
  have hfin := HP6.out
  rw [updS_twice] at hfin
  refine ⟨rfl, _, _, HI.out.step HS.out HPN.out.1 hfin (by have := HI.out.2.2.1; rw [List.length_append]; simpa using this) (fun y hy => ?_)⟩
  rcases List.mem_append.1 hy with hy | hy
  · exact HI.out.2.2.2 y hy
  · rw [List.mem_singleton.1 hy, HX.out, HN.out]; exact HNB.out
end Go.Proofs.Ytadalodjnbnjkaa

/- waits, walked: Any. -/
namespace Go.Proofs.Ytadalodjnbnjkaa
open Go.RowKit Go.Conc

theorem Try.info3p : (Try.prog.info? 3).map (fun i => (i.zero, i.size, i.bytes)) = some (some (.int .i64 0), 1, 8) := by kernel_rfl
/-- A copy of zs under way, marks behind it: i of zs are in, k places bear a mark. -/
def LanesRel (w : World) (zs : List Int) (n g i k : Nat) (wr : World) : Prop :=
  ∃ cur, Below w.heap.size w wr ∧ wr.heap[g]? = some (.cells cur 3 (0, 0)) ∧ cur.size = n + 70 ∧ (∀ j, j < i → cur[j]? = some (.int .i64 (zs.getD j 0))) ∧ ∀ j, i ≤ j → j < k → cur[j]? = some (.int .i64 (-77))
theorem LanesRel.mark {w wr : World} {zs : List Int} {n g k : Nat} (h : LanesRel w zs n g 0 k wr) (hk : k < n + 70) (hg : w.heap.size ≤ g) : LanesRel w zs n g 0 (k + 1) (wr.setCell ⟨g, k, none⟩ (.int .i64 (-77))) := by
  obtain ⟨cur, h1, h2, h3, h4, h5⟩ := h
  refine ⟨cur.setIfInBounds k (.int .i64 (-77)), h1.setCell hg _, heap_setCell_same h2 _, by simpa using h3, fun j hj => by omega, fun j _ hj => ?_⟩
  by_cases e : j = k
  · subst e
    rw [Array.getElem?_setIfInBounds_self_of_lt (by omega)]
  · rw [Array.getElem?_setIfInBounds_ne (by omega)]
    exact h5 j (Nat.zero_le _) (by omega)
theorem LanesRel.put {w wr : World} {zs : List Int} {n g i : Nat} (h : LanesRel w zs n g i (n + 70) wr) (hi : i < n) (hg : w.heap.size ≤ g) : LanesRel w zs n g (i + 1) (n + 70) (wr.setCell ⟨g, i, none⟩ (.int .i64 (zs.getD i 0))) := by
  obtain ⟨cur, h1, h2, h3, h4, h5⟩ := h
  refine ⟨cur.setIfInBounds i (.int .i64 (zs.getD i 0)), h1.setCell hg _, heap_setCell_same h2 _, by simpa using h3, fun j hj => ?_, fun j h6 hj => ?_⟩
  · by_cases e : j = i
    · subst e
      rw [Array.getElem?_setIfInBounds_self_of_lt (by omega)]
    · rw [Array.getElem?_setIfInBounds_ne (by omega)]
      exact h4 j (by omega)
  · rw [Array.getElem?_setIfInBounds_ne (by omega)]
    exact h5 j (by omega) hj
theorem LanesRel.old {w wr : World} {zs : List Int} {n g i k j : Nat} (h : LanesRel w zs n g i k wr) (hj : j < n + 70) : ∃ v, wr.cell? ⟨g, j, none⟩ = some v ∧ wr.frozen? ⟨g, j, none⟩ = false := by
  obtain ⟨cur, h1, h2, h3, h4, h5⟩ := h
  exact ⟨_, cell_of_heap h2 j (Array.getElem?_eq_getElem (by omega)), free_of_heap h2 j⟩

set_option maxRecDepth 100000 in
set_option maxHeartbeats 1600000 in
theorem waits_any (w0 w : World) (pb bb k : Nat) (st : Nat → Option Side) (H : List Hd) (o : OpV) (s : Side) (h : Inv w0 w pb bb st H k) (hk1 : k ≤ 1048576) (ho : o.lies w0) (i0 : Nat) (hi : i0 < 2) (hs : st i0 = some s) (hk : o.kind = 3) :
    Calls Try.prog 51 #[.pointer (some ⟨pb, 0, none⟩), .int .i64 i0, o.val] w (Does w0 pb bb k) := by
  obtain ⟨j0, hj0, hz0, hz1, hz2⟩ := info_parts Try.info3p
  have hii : (i0 : Int) < 2 := by omega
  have hi00 : (0 : Int) ≤ i0 := by omega
  have HP0 := Lib.hid (h.1.boxed o)
  have hbx : (oneO w.heap.size o.box) w.heap.size = some o.box := if_pos rfl
  obtain ⟨d0, d2, d6, b2, b3, b4, b5⟩ := HP0.out.seesO hbx hi hs rfl rfl
  have hll := ho.lanesLow
  obtain ⟨hzs, hzl, hln, _, _⟩ := ho
  obtain ⟨kind, net, lane, ticks, la, n, lc, zs, da, dn, dc, m⟩ := o
  simp only [OpV.val, OpV.box] at HP0 d0 d2 d6 b2 b3 b4 b5 hk hbx hzs hzl hln hll ⊢
  subst hk
  have hz1' := hzs.up HP0.out.below
  obtain ⟨W1, hW1⟩ : ∃ W, W = w.alloc (.cells #[.int .i64 3, .int .i64 net, .int .i64 lane, .int .i64 ticks, .slice la n lc, .slice da dn dc] 107) := ⟨_, rfl⟩
  obtain ⟨B, hB⟩ : ∃ B, B = w.heap.size := ⟨_, rfl⟩
  rw [← hW1, ← hB] at HP0
  rw [← hW1] at d0 d2 d6 b2 b3 b4 b5 hz1'
  rw [← hB] at b2 b3 b4 b5 hbx
  obtain ⟨O, hO⟩ : ∃ O : Nat → Option Obj, O = oneO B (.cells #[.int .i64 3, .int .i64 net, .int .i64 lane, .int .i64 ticks, .slice la n lc, .slice da dn dc] 107) := ⟨_, rfl⟩
  rw [← hO] at HP0 hbx
  have HOB : Hid (O B = some (OpV.box ⟨3, net, lane, ticks, la, n, lc, zs, da, dn, dc, m⟩)) := Lib.hid hbx
  have HI := Lib.hid h
  have HS := Lib.hid hs
  have HZS := Lib.hid hzs
  have HZ1 := Lib.hid hz1'
  have HZL := Lib.hid hzl
  have HLL := Lib.hid hll
  have hnum : ∀ (x : Int) W, Calls Try.prog 13 #[.int .i64 x] W fun e w' => e = .returned (.int .i64 x) ∧ W = w' := num_any
  have HNUM := Lib.hid hnum
  have hlnI : (n : Int) ≤ 1048576 := by omega
  have hBl : B < W1.heap.size := World.block_lt_of_cell? _ _ b2
  have HB := Lib.hid hB
  have HW1 := Lib.hid hW1
  clear h hs hnum hbx hO hzs hz1' hzl hll hB hW1 d0 d2 d6 b2 b3 b5
  go_enter Try.func51, Try.ntmps51
  go_wp2_with (at_make; refine wpList_make_full _ rfl _ _ 67 rfl _ 3 j0 _ 1 Try.underlying67 hj0 hz0 hz1 .i64 .i64 ((n : Int) + 70) ((n : Int) + 70) (n + 70) rfl rfl (by omega) (by omega) (by rw [hz2]; omega) (by unfold maxLen; omega) (Nat.le_refl _) ?_)
  intro w1 hown hgrow
  rw [← HW1.out] at hgrow
  have hsz : W1.heap.size = w.heap.size + 1 := by rw [HW1.out]; simp
  rw [← hsz] at hown
  rw [← hsz, ← HB.out]
  obtain ⟨g, hg⟩ : ∃ g, g = W1.heap.size := ⟨_, rfl⟩
  rw [← hg]
  clear hsz
  have hS : LanesRel W1 zs n g 0 0 w1 := by
    obtain ⟨g', cap, cur, hv, hb, hg', h1, h2, h3, h4⟩ := hown.2.resolve_left (fun h => by cases h.1)
    cases hv
    rw [hg]
    exact ⟨cur, (Below.refl _ _).grown hgrow (Nat.le_refl _) (fun k hk => by cases hk), hg', by omega, fun j hj => by omega, fun j _ hj => by omega⟩
  have HSR := Lib.hid hS
  have HG := Lib.hid hg
  clear hown hgrow hS hj0 hz0 hz1 hz2 hg
  go_wp2_with fail
  go_loopw [13] (fun i wr => ∃ q : Nat, q ≤ n + 70 ∧ i = .int .i64 q ∧ LanesRel W1 zs n g 0 q wr) (fun i _ => n + 70 - (intOf i).toNat)
  case atStart => exact ⟨0, Nat.zero_le _, rfl, HSR.out⟩
  case round =>
    obtain ⟨q, hq, rfl, hrel⟩ := hrel
    have HQ := Lib.hid hrel
    clear hrel
    by_cases hlt : q < n + 70
    · obtain ⟨v0, hv0, hf0⟩ := LanesRel.old HQ.out hlt
      have hjj : (q : Int) < (n : Int) + 70 := by omega
      have hj0 : (0 : Int) ≤ q := by omega
      go_wp2
      have HRR := Lib.hid (LanesRel.mark HQ.out hlt (Nat.le_of_eq HG.out.symm))
      go_roundw
      case rel => exact ⟨q + 1, by omega, by go_num, HRR.out⟩
      case measure => simp [intOf]; omega
    · have hjj : ¬ (q : Int) < (n : Int) + 70 := by omega
      obtain rfl : q = n + 70 := by omega
      go_wp2_with fail
      obtain ⟨wa, hwa⟩ : ∃ W, W = wr := ⟨_, rfl⟩
      rw [← hwa]
      rw [← hwa] at HQ
      clear hwa
      go_loopw [14] (fun i wr => ∃ q : Nat, q ≤ n ∧ i = .int .i64 q ∧ LanesRel W1 zs n g q (n + 70) wr) (fun i _ => n - (intOf i).toNat)
      case atStart => exact ⟨0, Nat.zero_le _, rfl, HQ.out⟩
      case round =>
        obtain ⟨q, hq, rfl, hrel⟩ := hrel
        have HQ2 := Lib.hid hrel
        have hbel : Below W1.heap.size W1 wr := hrel.choose_spec.1
        have x4 := (hbel.cell (p := ⟨B, 4, none⟩) hBl).trans b4
        have HBE := Lib.hid hbel
        clear hrel hbel
        by_cases hlt : q < n
        · obtain ⟨v0, hv0, hf0⟩ := LanesRel.old HQ2.out (j := q) (by omega)
          have hjj : (q : Int) < (n : Int) := by omega
          have hjj2 : (q : Int) < (n : Int) + 70 := by omega
          have hj0 : (0 : Int) ≤ q := by omega
          obtain ⟨b, off, rfl, hc⟩ := HZ1.out.resolve_left (fun e => by have := HZL.out; rw [e] at this; simp at this; omega)
          have hck := hc q (by rw [HZL.out]; exact hlt)
          have hck2 := (HBE.out.cell (p := ⟨b, off + q, none⟩) (World.block_lt_of_cell? _ _ hck)).trans hck
          obtain ⟨x, hx⟩ : ∃ x, x = zs.getD q 0 := ⟨_, rfl⟩
          rw [← hx] at hck2
          have HX := Lib.hid hx
          clear hc hx hck
          go_wp2
          have hR := LanesRel.put HQ2.out hlt (Nat.le_of_eq HG.out.symm)
          rw [← HX.out] at hR
          have HRR := Lib.hid hR
          go_roundw
          case rel => exact ⟨q + 1, by omega, by go_num, HRR.out⟩
          case measure => simp [intOf]; omega
        · have hjj : ¬ (q : Int) < (n : Int) := by omega
          obtain rfl : q = n := by omega
          go_wp2_with fail
          obtain ⟨cur, _, hgo, hcs, hc1, hc2⟩ := HQ2.out
          have hBg : B ≠ g := by have := HG.out; omega
          have hP2 := HP0.out.putHand (Mv.of_below HBE.out) (Nat.le_of_eq HG.out.symm) hgo
          obtain ⟨O2, hO2⟩ : ∃ O2 : Nat → Option Obj, O2 = fun b => if b = g then some (.cells cur 3 (0, 0)) else O b := ⟨_, rfl⟩
          rw [← hO2] at hP2
          have HOB2 : Hid (O2 B = some (OpV.box ⟨3, net, lane, ticks, la, q, lc, zs, da, dn, dc, m⟩)) := Lib.hid (by rw [hO2]; simp only [if_neg hBg]; exact HOB.out)
          have HOG : Hid (O2 g = some (.cells cur 3 (0, 0))) := Lib.hid (by rw [hO2]; exact if_pos rfl)
          clear hO2 hBg hgo hjj hlt HQ2 HQ HSR
          obtain ⟨y0, y2, y6, y3, y4, y5, y7⟩ := hP2.seesO HOB2.out hi HS.out rfl rfl
          simp only at y3 y4 y5 y7
          have HP2 := Lib.hid hP2
          have HC1 := Lib.hid hc1
          have HC2 := Lib.hid hc2
          clear hP2 hcs hc1 hc2 x4
          obtain ⟨R, hR⟩ : ∃ R, R = anyR s.N zs ticks := ⟨_, rfl⟩
          obtain ⟨ev, hev⟩ : ∃ v, v = R.err := ⟨_, rfl⟩
          obtain ⟨lv, hlv⟩ : ∃ v : Int, v = R.lane := ⟨_, rfl⟩
          obtain ⟨msg, hmsg⟩ : ∃ v, v = R.msg := ⟨_, rfl⟩
          obtain ⟨N', hN'⟩ : ∃ v, v = R.net := ⟨_, rfl⟩
          have hpn := (HI.out.2.1 i0 s HS.out).2.anyR zs ticks
          rw [← hR, ← hmsg, ← hN'] at hpn
          have HPN := Lib.hid hpn
          have HS1 : Hid (∀ W, PlaySep w0 W pb bb st H (handRes O2 none 0 0 []) → Calls Try.prog 26 #[.pointer (some ⟨s.A.net, 0, none⟩), .slice (some ⟨g, 0, none⟩) q (q + 70), .int .i64 ticks] W fun e w' => ∃ a m c, e = .returned (.tuple #[.int .i64 lv, .slice a m c, .int .i64 ev]) ∧ m = (msg.getD []).length ∧ PlaySep w0 w' pb bb (updS st i0 (some { s with N := N' })) H (handRes O2 a m c (msg.getD []))) :=
            Lib.hid fun W hW => by
              have := sep_anyO (lcap := q + 70) hW HOG.out HS.out (HI.out.2.1 i0 s HS.out).2 hk1 ticks HZL.out (by omega) (fun j hj => cell_of_heap (hW.handBlock HOG.out) j (HC1.out j hj))
              rw [← hR, ← hlv, ← hev, ← hN', ← hmsg] at this
              exact this
          have HS2 : Hid (∀ W hand, PlaySep w0 W pb bb (updS st i0 (some { s with N := N' })) H hand → Calls Try.prog 60 #[.pointer (some ⟨s.G, 0, none⟩), .slice la q lc, .int .i64 ticks] W fun e w' => ∃ v, e = .returned (.tuple #[.int .i64 lv, v, .int .i64 ev]) ∧ RCame w0 w' pb bb (updS (updS st i0 (some { s with N := N' })) i0 (some { A := s.A, N := N', G := s.G, R := N'.ref })) H hand msg v) :=
            Lib.hid fun W hand hW => by
              have := sep_rany (c := lc) hW (updS_same _ _ _) (N := s.N) (HI.out.2.1 i0 s HS.out).1 (HI.out.2.1 i0 s HS.out).2 hk1 ticks HZL.out (by omega) HZS.out HLL.out
              rw [← hR, ← hlv, ← hev, ← hN', ← hmsg] at this
              exact this
          have hee : ((ev : Int) == ev) = true := by simp
          have hle : ((lv : Int) == lv) = true := by simp
          clear hR hev hmsg hN' hpn hlv
          have hq0 : (0 : Int) ≤ (q : Int) := by omega
          have hq2 : (q : Int) ≤ (q : Int) + 70 := by omega
          go_region_held3 (fun w' => w'.cell? ⟨pb, i0, none⟩ = some (.pointer (some ⟨s.A.net, 0, none⟩)) ∧ w'.cell? ⟨B, 3, none⟩ = some (.int .i64 ticks) ∧ w'.cell? ⟨B, 4, none⟩ = some (.slice la q lc))
            (go_keep)
            (first
              | (go_at_call 26; refine (HS1.out _ (HP2.out.still ((Mv.refl _ _).drew))).mono ?_; rintro e w3 ⟨a, n, c, rfl, hn, hP3⟩; obtain ⟨e0, e2, e6, e3, e4, e5, e7⟩ := hP3.seesO (t := s) HOB2.out hi (updS_same _ _ _) rfl rfl; simp only at e3 e4 e5 e7; have HP3 := Lib.hid hP3; have HN := Lib.hid hn; clear hP3 hn))
          go_wp2_with fail
          go_region_held3 (fun w' => w'.cell? ⟨pb, 2 + i0, none⟩ = some (.pointer (some ⟨s.G, 0, none⟩)) ∧ w'.cell? ⟨B, 3, none⟩ = some (.int .i64 ticks) ∧ w'.cell? ⟨B, 4, none⟩ = some (.slice la q lc))
            (go_keep)
            (first
              | (go_at_call 60; refine (HS2.out _ _ (HP3.out.still ((Mv.refl _ _).drew))).mono ?_; rintro e w4 ⟨v', rfl, hP4, a', n', c', rfl, hn', hrow'⟩; obtain ⟨f0, f2, f6, f3, f4, f5, f7⟩ := hP4.seesO (t := s) HOB2.out hi (updS_same _ _ _) rfl rfl; simp only at f3 f4 f5 f7; have HP4 := Lib.hid hP4; have HN' := Lib.hid hn'; have HROW' := Lib.hid hrow'; clear hP4 hn' hrow'))
          have hnb : (msg.getD []).length ≤ 1048576 := by
            cases e : msg with
            | none => exact Nat.zero_le _
            | some m => exact HPN.out.2 m e
          have HNB := Lib.hid hnb
          clear hnb
          have hsame : Calls Try.prog 22 #[.slice a n c, .slice a' n' c'] w4 fun e w' => e = .returned (.bool true) ∧ ∃ d, w' = w4.drewN d := by
            have := same_any w4 a a' n c n' c' _ _ HP4.out.handMsg.reads HROW'.out (by have := HNB.out; have := HN.out; omega)
            rw [sameB_self] at this
            exact this
          have HSAME := Lib.hid hsame
          clear hsame
          go_wp2_with (first
            | (go_at_call 13; refine (HNUM.out _ _).mono ?_; rintro r w' ⟨rfl, rfl⟩)
            | (go_at_call 22; refine HSAME.out.mono ?_; rintro r w' ⟨rfl, d, rfl⟩))
          have g1 := HP4.out.handBlock HOG.out
          have HG1 := Lib.hid g1
          clear g1 y0 y2 y6 y3 y4 y5 y7 e0 e2 e6 e3 e4 e5 e7
          go_loopw [22, 21] (fun i ok wr => ∃ j : Nat, j ≤ q + 70 ∧ i = .int .i64 j ∧ ok = .bool true ∧ ∃ d, wr = w4.drewN d) (fun i _ _ => q + 70 - (intOf i).toNat)
          case atStart => exact ⟨0, Nat.zero_le _, rfl, rfl, d, rfl⟩
          case round =>
            obtain ⟨j, hj, rfl, rfl, d', rfl⟩ := hrel
            have hj0 : (0 : Int) ≤ j := by omega
            by_cases hlt : j < q + 70
            · have hjj : (j : Int) < (q : Int) + 70 := by omega
              by_cases hlq : j < q
              · have hjq : (j : Int) < (q : Int) := by omega
                obtain ⟨b, off, rfl, hc⟩ := HZS.out.resolve_left (fun e => by have := HZL.out; rw [e] at this; simp at this; omega)
                have hck := hc j (by rw [HZL.out]; exact hlq)
                have hck2 := (HP4.out.below.cell (p := ⟨b, off + j, none⟩) (World.block_lt_of_cell? _ _ hck)).trans hck
                have hgk : w4.cell? ⟨g, j, none⟩ = some (.int .i64 (zs.getD j 0)) := cell_of_heap HG1.out j (HC1.out j hlq)
                obtain ⟨x, hx⟩ : ∃ x, x = zs.getD j 0 := ⟨_, rfl⟩
                rw [← hx] at hck2 hgk
                have hxx : (x == x) = true := by simp
                have hd1 : decide ((j : Int) < (q : Int)) = true := by simpa using hlq
                clear hc hx hck
                go_wp2_with fail
                go_quiet (fail)
                go_wp2_with fail
                go_roundw
                case rel => exact ⟨j + 1, by omega, by go_num, rfl, _, rfl⟩
                case measure => simp [intOf]; omega
              · have hjq : ¬ (j : Int) < (q : Int) := by omega
                have hjq2 : (q : Int) ≤ (j : Int) := by omega
                have hgk : w4.cell? ⟨g, j, none⟩ = some (.int .i64 (-77)) := cell_of_heap HG1.out j (HC2.out j (by omega) hlt)
                go_wp2_with fail
                go_quiet (fail)
                go_wp2_with fail
                go_roundw
                case rel => exact ⟨j + 1, by omega, by go_num, rfl, _, rfl⟩
                case measure => simp [intOf]; omega
            · have hjj : ¬ (j : Int) < (q : Int) + 70 := by omega
              go_wp2_with fail
              refine ((HP4.out.still ((Mv.refl _ _).drewN d')).handMsg.lst.held (by have := HNB.out; have := HN.out; omega) (by have := HI.out.2.2.1; omega)).mono ?_
              rintro e w6 ⟨rfl, x, hx, hP6⟩
              have HP6 := Lib.hid hP6
              have HX := Lib.hid hx
              clear hP6 hx
              go_wp2_with fail
              go_ret
              have hfin := HP6.out
              rw [updS_twice] at hfin
              refine ⟨rfl, _, _, HI.out.step HS.out HPN.out.1 hfin (by have := HI.out.2.2.1; rw [List.length_append]; simpa using this) (fun y hy => ?_)⟩
              rcases List.mem_append.1 hy with hy | hy
              · exact HI.out.2.2.2 y hy
              · rw [List.mem_singleton.1 hy, HX.out, HN.out]; exact HNB.out
end Go.Proofs.Ytadalodjnbnjkaa
