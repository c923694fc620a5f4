/- plays and LanePlays, walked. -/
import Derived.Test.YtadalodjnbnjkaaPlay25
import Derived.Test.YtadalodjnbnjkaaPlay26
namespace Go.Proofs.Ytadalodjnbnjkaa
open Go.RowKit Go.Conc

/-- A script as it lies: the cells of an Op, one behind the other. -/
def OpV.cells (o : OpV) : List Value := [.int .i64 o.kind, .int .i64 o.net, .int .i64 o.lane, .int .i64 o.ticks, .slice o.la o.ln o.lc, .slice o.da o.dn o.dc]
def ScriptIn (w : World) (a : Option Addr) (ops : List OpV) : Prop :=
  (ops = [] ∨ ∃ b off, a = some ⟨b, off, none⟩ ∧ ∀ j (hj : j < ops.length) f v, (ops[j]'hj).cells[f]? = some v → w.cell? ⟨b, off + (j * 6 + f), none⟩ = some v) ∧ ∀ o ∈ ops, o.lies w
theorem PN.start (nl : Nat) (F : List (Int × Int)) (hF : ∀ f ∈ F, mayF f) (hnl : nl ≤ 64) : PN (net0 nl F) 0 where
  ok := ⟨hF, fun x hx => by simp [net0] at hx, fun i _ => by simp [net0, cnt, lq0]⟩
  due := fun x hx => by simp [net0] at hx
  now := by simp [net0]
  sent := by simp [net0]
  len := by simp [net0]
  dues := fun x hx => by simp [net0] at hx
  nl := hnl
  buf := fun i m hm => by simp [net0, lq0] at hm
theorem Entered.inv {x : Arg} {o : Option Side} (h : Entered x o) : ∀ s, o = some s → s.R = s.N.ref ∧ PN s.N 0 := fun s hs => by
  rcases h with ⟨hg, A, G, e⟩ | ⟨_, e⟩
  · rw [e] at hs
    cases hs
    exact ⟨rfl, PN.start _ _ hg.2.2 (by have := hg.1; omega)⟩
  · rw [e] at hs
    cases hs
theorem OpV.lies.still {w w' : World} {o : OpV} (h : o.lies w) (hb : Below w.heap.size w w') : o.lies w' := ⟨h.1.up hb, h.2.1, h.2.2.1, h.2.2.2.1.still hb, h.2.2.2.2⟩
theorem ScriptIn.still {w w' : World} {a : Option Addr} {ops : List OpV} (h : ScriptIn w a ops) (hb : Below w.heap.size w w') : ScriptIn w' a ops := by
  refine ⟨h.1.imp id ?_, fun o ho => (h.2 o ho).still hb⟩
  rintro ⟨b, off, rfl, hc⟩
  refine ⟨b, off, rfl, fun j hj f v hv => ?_⟩
  have := hc j hj f v hv
  exact (hb.cell (p := ⟨b, off + (j * 6 + f), none⟩) (World.block_lt_of_cell? _ _ this)).trans this
theorem PlaySep.keptOk {w0 w : World} {pb bb : Nat} {st : Nat → Option Side} {H : List Hd} {hand : Res} (h : PlaySep w0 w pb bb st H hand) (hs : ∀ x ∈ H, x.n ≤ 1048576) (hl : H.length ≤ 1048577) :
    Calls Try.prog 44 #[.pointer (some ⟨bb, 0, none⟩)] w fun e w' => e = .returned (.bool true) ∧ Mv (fun _ => False) w w' := by
  obtain ⟨F, hF⟩ := h
  obtain ⟨own, hB, _⟩ := hF.bookAt
  refine (kept_any w own pb bb st H hB (fun x hx => by have := hs x hx; omega) (by omega)).mono ?_
  rintro e w' ⟨rfl, hb⟩
  exact ⟨rfl, Mv.of_below hb⟩
theorem ScriptIn.opCells {w : World} {b off : Nat} {ops : List OpV} {j : Nat} (hj : j < ops.length) (hc : ∀ j (hj : j < ops.length) f v, (ops[j]'hj).cells[f]? = some v → w.cell? ⟨b, off + (j * 6 + f), none⟩ = some v) :
    w.cell? ⟨b, off + j * 6, none⟩ = some (.int .i64 ops[j].kind) ∧ w.cell? ⟨b, off + j * 6 + 1, none⟩ = some (.int .i64 ops[j].net) ∧ w.cell? ⟨b, off + j * 6 + 2, none⟩ = some (.int .i64 ops[j].lane) ∧ w.cell? ⟨b, off + j * 6 + 3, none⟩ = some (.int .i64 ops[j].ticks) ∧
      w.cell? ⟨b, off + j * 6 + 4, none⟩ = some (.slice ops[j].la ops[j].ln ops[j].lc) ∧ w.cell? ⟨b, off + j * 6 + 5, none⟩ = some (.slice ops[j].da ops[j].dn ops[j].dc) :=
  ⟨hc j hj 0 _ rfl, hc j hj 1 _ rfl, hc j hj 2 _ rfl, hc j hj 3 _ rfl, hc j hj 4 _ rfl, hc j hj 5 _ rfl⟩

set_option maxRecDepth 100000 in
set_option maxHeartbeats 1600000 in
theorem plays_walk (w : World) (x y : Arg) (hx : x.lies w) (hy : y.lies w) (a : Option Addr) (n c : Nat) (ops : List OpV) (hn : ops.length = n) (hs : ScriptIn w a ops) (hnb : n ≤ 1048576) :
    Calls Try.prog 29 #[.agg #[.int .i64 x.lanes, .slice x.a x.n x.c], .agg #[.int .i64 y.lanes, .slice y.a y.n y.c], .slice a n c, .int .i64 1, .int .i64 7] w fun e w' => e = .returned (.bool true) ∧ Below w.heap.size w w' := by
  obtain ⟨W1, hW1⟩ : ∃ W1, W1 = (w.alloc (.cells #[.int .i64 x.lanes, .slice x.a x.n x.c] 30)).alloc (.cells #[.int .i64 y.lanes, .slice y.a y.n y.c] 30) := ⟨_, rfl⟩
  have hb1 : Below w.heap.size w W1 := by rw [hW1]; exact ((Below.refl _ _).alloc (Nat.le_refl _) _).alloc (by simp) _
  have hbegin : Calls Try.prog 14 #[.agg #[.int .i64 x.lanes, .slice x.a x.n x.c], .agg #[.int .i64 y.lanes, .slice y.a y.n y.c]] W1 (Begun W1 x y) := begin_any W1 x y (hx.still hb1) (hy.still hb1)
  have HBEG := Lib.hid hbegin
  have HB1 := Lib.hid hb1
  have HW1 := Lib.hid hW1
  have HN := Lib.hid hn
  have HSC := Lib.hid hs
  have hnI : (n : Int) ≤ 1048576 := by omega
  clear hb1 hbegin hx hy hW1 hn hs
  go_enter Try.func29, Try.ntmps29
  go_wp2_with (first | (go_at_call 14; rw [← HW1.out]; refine HBEG.out.mono ?_; rintro r w2 ⟨pb, bb, st, rfl, hP, hE0, hE1, hE2⟩; have HI0 : Hid (Inv W1 w2 pb bb st [] 0) := Lib.hid ⟨hP, fun i s hs => by (rcases i with _ | _ | i); exact hE0.inv s hs; exact hE1.inv s hs; (rw [hE2 (i + 1 + 1) (by omega)] at hs; cases hs), Nat.le_refl _, fun x hx => by simp at hx⟩; clear hP hE0 hE1 hE2))
  go_loopw [13] (fun i wr => ∃ q : Nat, q ≤ n ∧ i = .int .i64 q ∧ ∃ st' H', Inv W1 wr pb bb st' H' q) (fun i _ => n - (intOf i).toNat)
  case atStart => exact ⟨0, Nat.zero_le _, rfl, st, [], HI0.out⟩
  case round =>
    obtain ⟨q, hq, rfl, st', H', hinv⟩ := hrel
    have HI := Lib.hid hinv
    clear hinv
    have hq0 : (0 : Int) ≤ q := by omega
    by_cases hlt : q < n
    · have hqn : (q : Int) < n := by omega
      obtain ⟨b, off, rfl, hc⟩ := HSC.out.1.resolve_left (fun e => by have := HN.out; rw [e] at this; simp at this; omega)
      have hql : q < ops.length := by rw [HN.out]; exact hlt
      have hlies := HSC.out.2 ops[q] (List.getElem_mem hql)
      obtain ⟨p0, p1, p2, p3, p4, p5⟩ := ScriptIn.opCells hql hc
      obtain ⟨o, ho⟩ : ∃ o, o = ops[q] := ⟨_, rfl⟩
      rw [← ho] at hlies p0 p1 p2 p3 p4 p5
      have hW1l : Below w.heap.size w wr := ((Mv.of_below HB1.out).trans (Mv.of_below HI.out.1.below)).below
      have hbl : b < w.heap.size := World.block_lt_of_cell? _ _ p0
      have up : ∀ k v, w.cell? ⟨b, k, none⟩ = some v → wr.cell? ⟨b, k, none⟩ = some v := fun k v hk => (hW1l.cell (p := ⟨b, k, none⟩) hbl).trans hk
      have c0 := up _ _ p0
      have c1 := up _ _ p1
      have c2 := up _ _ p2
      have c3 := up _ _ p3
      have c4 := up _ _ p4
      have c5 := up _ _ p5
      have HD := Lib.hid (does_all W1 wr pb bb q st' H' o HI.out (by omega) (hlies.still HB1.out))
      obtain ⟨kind, net, lane, ticks, la, ln, lc, zs, da, dn, dc, m⟩ := o
      simp only [OpV.val] at HD c0 c1 c2 c3 c4 c5
      clear p0 p1 p2 p3 p4 p5 hW1l up ho hlies hc
      go_wp2_with (first
        | (go_at_call 43; refine HD.out.mono ?_; rintro e w3 ⟨rfl, st3, H3, hi3⟩; have d6 : w3.cell? ⟨pb, 6, none⟩ = some (.pointer (some ⟨bb, 0, none⟩)) := cell_of_heap hi3.1.play 6 rfl; have HI3 := Lib.hid hi3; clear hi3)
        | (go_at_call 44; refine (HI3.out.1.keptOk HI3.out.2.2.2 (by have := HI3.out.2.2.1; omega)).mono ?_; rintro e w4 ⟨rfl, hm4⟩; have HI4 := Lib.hid (HI3.out.still hm4); clear hm4))
      go_roundw
      case rel => exact ⟨q + 1, by omega, by go_num, st3, H3, HI4.out⟩
      case measure => simp [intOf]; omega
    · have hqn : ¬ (q : Int) < n := by omega
      go_wp2_with fail
      go_ret
      exact ⟨rfl, ((Mv.of_below HB1.out).trans (Mv.of_below HI.out.1.below)).below⟩
set_option maxRecDepth 100000 in
set_option maxHeartbeats 1600000 in
theorem lanePlays_walk (w : World) (x y : Arg) (hx : x.lies w) (hy : y.lies w) (a : Option Addr) (n c : Nat) (ops : List OpV) (hn : ops.length = n) (hs : ScriptIn w a ops) (hnb : n ≤ 1048576) :
    Calls Try.prog 11 #[.agg #[.int .i64 x.lanes, .slice x.a x.n x.c], .agg #[.int .i64 y.lanes, .slice y.a y.n y.c], .slice a n c] w fun e w' => e = .returned (.bool true) ∧ Below w.heap.size w w' := by
  obtain ⟨W1, hW1⟩ : ∃ W1, W1 = (w.alloc (.cells #[.int .i64 x.lanes, .slice x.a x.n x.c] 30)).alloc (.cells #[.int .i64 y.lanes, .slice y.a y.n y.c] 30) := ⟨_, rfl⟩
  have hb1 : Below w.heap.size w W1 := by rw [hW1]; exact ((Below.refl _ _).alloc (Nat.le_refl _) _).alloc (by simp) _
  have HP := Lib.hid (plays_walk W1 x y (hx.still hb1) (hy.still hb1) a n c ops hn (hs.still hb1) hnb)
  have HB1 := Lib.hid hb1
  have HW1 := Lib.hid hW1
  clear hb1 hx hy hW1 hn hs
  go_enter Try.func11, Try.ntmps11
  go_wp2_with (first | (go_at_call 29; rw [← HW1.out]; refine HP.out.mono ?_; rintro r w2 ⟨rfl, hb⟩; have HB2 := Lib.hid hb; clear hb))
  go_ret
  exact ⟨rfl, ((Mv.of_below HB1.out).trans (Mv.of_below HB2.out)).below⟩
end Go.Proofs.Ytadalodjnbnjkaa
