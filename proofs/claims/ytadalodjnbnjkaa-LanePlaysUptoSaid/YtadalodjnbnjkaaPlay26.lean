/- begin, walked. -/
import Derived.Test.YtadalodjnbnjkaaPlay14
import Derived.Deep.CutBlock
import Derived.Deep.DeepCutAuto
import Derived.BigQuiet
import Derived.Deep.QuietTactic
import Derived.Deep.RegionHeld3
namespace Go.Proofs.Ytadalodjnbnjkaa
open Go.RowKit Go.Conc

def Begun (w : World) (x y : Arg) (e : Ending) (w' : World) : Prop :=
  ∃ pb bb st, e = .returned (.tuple #[.pointer (some ⟨pb, 0, none⟩), .bool true]) ∧ PlaySep w w' pb bb st [] empRes ∧ Entered x (st 0) ∧ Entered y (st 1) ∧ ∀ i, 2 ≤ i → st i = none
def BegRel (w : World) (x y : Arg) (pb bb tb : Nat) (k : Nat) (wr : World) : Prop :=
  ∃ st, PlaySep w wr pb bb st [] empRes ∧ (0 < k → Entered x (st 0)) ∧ (1 < k → Entered y (st 1)) ∧ (∀ i, k ≤ i → st i = none) ∧
    wr.heap[tb]? = some (.cells #[.int .i64 x.lanes, .slice x.a x.n x.c, .int .i64 y.lanes, .slice y.a y.n y.c] 90 (0, 0))
def begO (b : Nat) : Obj := .cells #[.pointer none, .pointer none, .pointer none, .pointer none, .bool false, .bool false, .pointer (some ⟨b, 0, none⟩)] 40
def begW (w : World) (x y : Arg) : World := ((((w.alloc (.cells #[.int .i64 x.lanes, .slice x.a x.n x.c] 30)).alloc (.cells #[.int .i64 y.lanes, .slice y.a y.n y.c] 30)).alloc (.cells #[.slice none 0 0] 89)).alloc (begO (w.heap.size + 1 + 1))).alloc
  (.cells #[.int .i64 x.lanes, .slice x.a x.n x.c, .int .i64 y.lanes, .slice y.a y.n y.c] 90)
theorem BegRel.start (w : World) (x y : Arg) : BegRel w x y (w.heap.size + 1 + 1 + 1) (w.heap.size + 1 + 1) (w.heap.size + 1 + 1 + 1 + 1) 0 (begW w x y) := by
  have hb : Below w.heap.size w (begW w x y) := by
    unfold begW
    exact (((((Below.refl _ _).alloc (Nat.le_refl _) _).alloc (by simp) _).alloc (by simp; omega) _).alloc (by simp; omega) _).alloc (by simp; omega) _
  have hsz : (begW w x y).heap.size = w.heap.size + 1 + 1 + 1 + 1 + 1 := by simp [begW]
  have hp : (begW w x y).heap[w.heap.size + 1 + 1 + 1]? = some (begO (w.heap.size + 1 + 1)) := by
    have h1 := heap_alloc_new (((w.alloc (.cells #[.int .i64 x.lanes, .slice x.a x.n x.c] 30)).alloc (.cells #[.int .i64 y.lanes, .slice y.a y.n y.c] 30)).alloc (.cells #[.slice none 0 0] 89)) (begO (w.heap.size + 1 + 1))
    unfold begW
    rw [Below.heap_alloc _ _ _ (by simp)]
    simpa using h1
  have hbk : (begW w x y).heap[w.heap.size + 1 + 1]? = some (.cells #[.slice none 0 0] 89 (0, 0)) := by
    have h1 := heap_alloc_new ((w.alloc (.cells #[.int .i64 x.lanes, .slice x.a x.n x.c] 30)).alloc (.cells #[.int .i64 y.lanes, .slice y.a y.n y.c] 30)) (.cells #[.slice none 0 0] 89)
    unfold begW
    rw [Below.heap_alloc _ _ _ (by simp; try omega), Below.heap_alloc _ _ _ (by simp)]
    simpa using h1
  have ht : (begW w x y).heap[w.heap.size + 1 + 1 + 1 + 1]? = some (.cells #[.int .i64 x.lanes, .slice x.a x.n x.c, .int .i64 y.lanes, .slice y.a y.n y.c] 90 (0, 0)) := by
    have h1 := heap_alloc_new ((((w.alloc (.cells #[.int .i64 x.lanes, .slice x.a x.n x.c] 30)).alloc (.cells #[.int .i64 y.lanes, .slice y.a y.n y.c] 30)).alloc (.cells #[.slice none 0 0] 89)).alloc (begO (w.heap.size + 1 + 1))) (.cells #[.int .i64 x.lanes, .slice x.a x.n x.c, .int .i64 y.lanes, .slice y.a y.n y.c] 90)
    unfold begW
    simpa using h1
  refine ⟨fun _ => none, ⟨fun p b => match p with
    | .book => b = w.heap.size + 1 + 1 + 1 ∨ b = w.heap.size + 1 + 1
    | _ => False, Mv.of_below hb, fun p => ?_, fun p b hp => ?_, fun p q b h1 h2 => ?_⟩, fun h => by omega, fun h => by omega, fun _ _ => rfl, ht⟩
  · cases p with
    | net i => exact fun b h => h
    | ref i => exact fun b h => h
    | hand => exact fun b h => h
    | book =>
      refine ⟨fun b => if b = w.heap.size + 1 + 1 + 1 then some .play else if b = w.heap.size + 1 + 1 then some .book else none, ⟨fun b t h => ?_, if_pos rfl, hp, ?_, .slice none 0 0, hbk, World.ownsRow_nil _ _ _ _, fun b hb => by simp [Value.ownBlock] at hb, fun x hx => by simp at hx⟩, fun b => ?_⟩
      · simp only at h
        split at h
        · omega
        · split at h
          · omega
          · cases h
      · show (if _ then _ else _) = _
        rw [if_neg (by omega), if_pos rfl]
      · by_cases h1 : b = w.heap.size + 1 + 1 + 1
        · simp [h1]
        · by_cases h2 : b = w.heap.size + 1 + 1
          · simp [h2]
          · simp [h1, h2]
  · cases p with
    | net i => exact hp.elim
    | ref i => exact hp.elim
    | hand => exact hp.elim
    | book =>
      rcases hp with rfl | rfl <;> omega
  · cases p <;> cases q <;> first | rfl | exact h1.elim | exact h2.elim
theorem BegRel.finish {w wr : World} {x y : Arg} {pb bb tb : Nat} (h : BegRel w x y pb bb tb 2 wr) : Begun w x y (.returned (.tuple #[.pointer (some ⟨pb, 0, none⟩), .bool true])) wr := by
  obtain ⟨st, h1, h2, h3, h4, _⟩ := h
  exact ⟨pb, bb, st, rfl, h1, h2 (by omega), h3 (by omega), h4⟩
/-- A round of begin, where the argument is good. -/
theorem BegRel.gives {w wr w2 w' : World} {x y z : Arg} {pb bb tb k fb : Nat} {A : Ga} {G : Nat} {own : Own} {own' : ROwn} (h : BegRel w x y pb bb tb k wr) (hk : k < 2) (hz : z = if k = 0 then x else y) (hg : z.good)
    (hm1 : Mv (fun _ => False) wr w2) (hm2 : Mv (fun b => b = fb) w2 w') (hfb : wr.heap.size ≤ fb) (hpt : pb ≠ tb)
    (hN : NetIs w2 own A (net0 z.lanes.toNat z.F)) (hR : RefIs w2 own' G (ref0 z.lanes.toNat z.F)) (ho : ∀ b, b < wr.heap.size → own b = none) (ho' : ∀ b, b < wr.heap.size → own' b = none) (hd : ∀ b, own b = none ∨ own' b = none) (hof : own fb = none) (hof' : own' fb = none) :
    BegRel w x y pb bb tb (k + 1) (((w'.setCell ⟨pb, k, none⟩ (.pointer (some ⟨A.net, 0, none⟩))).setCell ⟨pb, 2 + k, none⟩ (.pointer (some ⟨G, 0, none⟩))).setCell ⟨pb, 4 + k, none⟩ (.bool true)) := by
  obtain ⟨st, h1, h2, h3, h4, h5⟩ := h
  have hE : Entered z (Option.some ⟨A, net0 z.lanes.toNat z.F, G, ref0 z.lanes.toNat z.F⟩) := .inl ⟨hg, A, G, rfl⟩
  refine ⟨_, h1.enter hk (h4 k (Nat.le_refl _)) hm1 hm2 hfb hN hR ho ho' hd hof hof', fun _ => ?_, fun hk1 => ?_, fun i hi => ?_, ?_⟩
  · by_cases e : k = 0
    · subst e
      rw [updS_same]
      rw [if_pos rfl] at hz
      subst hz; exact hE
    · rw [updS_other _ _ (fun e2 => e e2.symm)]
      exact h2 (by omega)
  · have : k = 1 := by omega
    subst this
    rw [updS_same]
    rw [if_neg (by omega)] at hz
    subst hz; exact hE
  · rw [updS_other _ _ (by omega)]
    exact h4 i (by omega)
  · have hl := lt_of_heap h5
    have hs1 := hm1.size
    rw [heap_setCell_other (Ne.symm hpt), heap_setCell_other (Ne.symm hpt), heap_setCell_other (Ne.symm hpt)]
    exact ((hm2.block tb (by omega) (by omega)).trans (hm1.block tb hl id)).trans h5
theorem BegRel.gone {w wr w' : World} {x y z : Arg} {pb bb tb k fb : Nat} (h : BegRel w x y pb bb tb k wr) (hk : k < 2) (hz : z = if k = 0 then x else y) (hg : ¬ z.good)
    (hm2 : Mv (fun b => b = fb) wr w') (hfb : wr.heap.size ≤ fb) (hpt : pb ≠ tb) :
    BegRel w x y pb bb tb (k + 1) (((w'.setCell ⟨pb, k, Option.none⟩ (.pointer Option.none)).setCell ⟨pb, 2 + k, Option.none⟩ (.pointer Option.none)).setCell ⟨pb, 4 + k, Option.none⟩ (.bool false)) := by
  obtain ⟨st, h1, h2, h3, h4, h5⟩ := h
  have hE : Entered z Option.none := .inr ⟨hg, rfl⟩
  refine ⟨st, h1.enterNone hk (h4 k (Nat.le_refl _)) hm2 hfb, fun _ => ?_, fun hk1 => ?_, fun i hi => h4 i (by omega), ?_⟩
  · by_cases e : k = 0
    · subst e
      rw [h4 0 (by omega)]
      rw [if_pos rfl] at hz
      subst hz; exact hE
    · exact h2 (by omega)
  · have : k = 1 := by omega
    subst this
    rw [h4 1 (by omega)]
    rw [if_neg (by omega)] at hz
    subst hz; exact hE
  · have hl := lt_of_heap h5
    rw [heap_setCell_other (Ne.symm hpt), heap_setCell_other (Ne.symm hpt), heap_setCell_other (Ne.symm hpt)]
    exact (hm2.block tb hl (by omega)).trans h5

theorem BegRel.play {w wr : World} {x y : Arg} {pb bb tb k : Nat} (h : BegRel w x y pb bb tb k wr) : ∃ C : Array Value, wr.heap[pb]? = some (.cells C 40 (0, 0)) ∧ C.size = 7 := by
  obtain ⟨st, ⟨F, h1⟩, _⟩ := h
  obtain ⟨own, hB, _⟩ := h1.hold .book
  exact ⟨_, hB.2.2.1, rfl⟩
/-- The fates' own list, from j on as it was. -/
def Fl (fb n cap : Nat) (T : List (Int × Int)) (j : Nat) (w3 wr : World) : Prop :=
  ∃ cur, wr.heap[fb]? = some (.cells cur 63 (0, 0)) ∧ cur.size = cap * 2 ∧ Mv (fun b => b = fb) w3 wr ∧ ∀ i, j ≤ i → i < n + 70 → cur[i * 2]? = some (.int .i64 (T.getD i (0, 0)).1) ∧ cur[i * 2 + 1]? = some (.int .i64 (T.getD i (0, 0)).2)
theorem Fl.start {fb n cap : Nat} {T : List (Int × Int)} {w3 : World} {cur : Array Value} (h : w3.heap[fb]? = some (.cells cur 63 (0, 0))) (hs : cur.size = cap * 2) (hT : T.length = n + 70) (hc : cur.toList.take ((n + 70) * 2) = fateCells T) : Fl fb n cap T 0 w3 w3 := by
  refine ⟨cur, h, hs, Mv.refl _ _, fun i _ hi => ?_⟩
  have g := fateCells_get T i (by omega)
  rw [← hc, List.getElem?_take, List.getElem?_take, if_pos (by omega), if_pos (by omega)] at g
  simpa using g
theorem Fl.step {fb n cap j : Nat} {T : List (Int × Int)} {w3 wr : World} (h : Fl fb n cap T j w3 wr) (u v : Value) : Fl fb n cap T (j + 1) w3 ((wr.setCell ⟨fb, j * 2, none⟩ u).setCell ⟨fb, j * 2 + 1, none⟩ v) := by
  obtain ⟨cur, h1, h2, h3, h4⟩ := h
  refine ⟨(cur.setIfInBounds (j * 2) u).setIfInBounds (j * 2 + 1) v, heap_setCell_same (heap_setCell_same h1 _) _, by simpa using h2, Mv.setCell (F := fun b => b = fb) (Mv.setCell (F := fun b => b = fb) h3 (.inl rfl) _) (.inl rfl) _, fun i hi hi2 => ?_⟩
  rw [Array.getElem?_setIfInBounds_ne (by omega), Array.getElem?_setIfInBounds_ne (by omega), Array.getElem?_setIfInBounds_ne (by omega), Array.getElem?_setIfInBounds_ne (by omega)]
  exact h4 i (by omega) hi2
theorem Fl.drew {fb n cap j : Nat} {T : List (Int × Int)} {w3 wr : World} (h : Fl fb n cap T j w3 wr) (d : Nat) : Fl fb n cap T j w3 (wr.drewN d) := by
  obtain ⟨cur, h1, h2, h3, h4⟩ := h
  exact ⟨cur, h1, h2, h3.drewN d, h4⟩

set_option maxRecDepth 100000 in
set_option maxHeartbeats 3200000 in
theorem begin_any (w : World) (x y : Arg) (hx : x.lies w) (hy : y.lies w) : Calls Try.prog 14 #[.agg #[.int .i64 x.lanes, .slice x.a x.n x.c], .agg #[.int .i64 y.lanes, .slice y.a y.n y.c]] w (Begun w x y) := by
  obtain ⟨i0, hi0, hz0, hz1, hz2⟩ := info_parts Try.info63
  have HX := Lib.hid hx
  have HY := Lib.hid hy
  clear hx hy
  go_enter Try.func14, Try.ntmps14
  go_wp2_with fail
  have hstart := BegRel.start w x y
  have hlt : w.heap.size + 1 + 1 + 1 ≠ w.heap.size + 1 + 1 + 1 + 1 := by omega
  obtain ⟨tb, htb⟩ : ∃ b, b = w.heap.size + 1 + 1 + 1 + 1 := ⟨_, rfl⟩
  rw [← htb] at hstart hlt ⊢
  obtain ⟨pb, hpb⟩ : ∃ b, b = w.heap.size + 1 + 1 + 1 := ⟨_, rfl⟩
  rw [← hpb] at hstart hlt ⊢
  have hpb0 : w.heap.size ≤ pb := by omega
  have htb0 : w.heap.size ≤ tb := by omega
  have HS := Lib.hid hstart
  have HLT := Lib.hid hlt
  clear hstart hlt htb hpb
  go_loopw [8] (fun i wr => ∃ k : Nat, k ≤ 2 ∧ i = .int .i64 k ∧ BegRel w x y pb (w.heap.size + 1 + 1) tb k wr) (fun i _ => 2 - (intOf i).toNat)
  case atStart => exact ⟨0, by omega, rfl, HS.out⟩
  case round =>
    obtain ⟨k, hk, rfl, hrel⟩ := hrel
    have HR := Lib.hid hrel
    clear HS
    by_cases hlt : k < 2
    · have hkk : (k : Int) < 2 := by omega
      have hk0 : (0 : Int) ≤ k := by omega
      obtain ⟨st, hP, _, _, _, htb⟩ := hrel
      obtain ⟨z, hz⟩ : ∃ z, z = if k = 0 then x else y := ⟨_, rfl⟩
      have hzl : z.lies w := by rw [hz]; split; exact HX.out; exact HY.out
      have hbw := hP.below
      have c0 : wr.cell? ⟨tb, k * 2, none⟩ = some (.int .i64 z.lanes) := by
        refine cell_of_heap htb _ ?_
        rcases (show k = 0 ∨ k = 1 by omega) with rfl | rfl
        · rw [hz]; rfl
        · rw [hz]; rfl
      have c1 : wr.cell? ⟨tb, k * 2 + 1, none⟩ = some (.slice z.a z.n z.c) := by
        refine cell_of_heap htb _ ?_
        rcases (show k = 0 ∨ k = 1 by omega) with rfl | rfl
        · rw [hz]; rfl
        · rw [hz]; rfl
      have htl := lt_of_heap htb
      have HZL := Lib.hid (hzl.still hbw)
      have HZ := Lib.hid hz
      have HTB := Lib.hid htb
      have hfl := hzl.1.1
      have HFL := Lib.hid hfl
      clear hP htb hz hzl hbw hfl
      go_wp2_with fail
      refine (fates_any wr z.a z.n z.c z.F HZL.out.1 HZL.out.2).mono ?_
      rintro r w1 ⟨fv, gv, rfl, hft⟩
      obtain ⟨n, hn⟩ : ∃ n, n = z.F.length := ⟨_, rfl⟩
      have HN := Lib.hid hn
      have hnb : n * 16 ≤ 140737488351232 := by have := HZL.out.2; rw [hn, HFL.out]; exact this
      have hgown := hft.2.2.1
      rw [List.take_length] at hgown
      obtain ⟨ga, gc, rfl, _⟩ := fateRow_of_own hgown rfl
      rw [← hn] at hft ⊢
      have hmk0 : Mk wr z.F w1.heap.size 0 fv (.slice ga n gc) (w1.alloc (.cells #[.int .i64 77, .int .i64 (-77)] 63)) := Mk.start (by rw [← hn]; exact hft)
      obtain ⟨mb, hmb⟩ : ∃ b, b = w1.heap.size := ⟨_, rfl⟩
      have HMK0 := Lib.hid hmk0
      have HMB := Lib.hid hmb
      clear hft hgown hn hmk0 hmb c0 c1
      go_wp2_with fail
      rw [← HMB.out] at HMK0
      rw [← HMB.out]
      obtain ⟨wo, rfl⟩ : ∃ wo : World, wo = wr := ⟨_, rfl⟩
      go_loopw [9, 12] (fun fv j wr => ∃ q : Nat, q ≤ 70 ∧ j = .int .i64 q ∧ Mk wo z.F mb q fv (.slice ga n gc) wr) (fun _ j _ => 70 - (intOf j).toNat)
      case atStart => exact ⟨0, by omega, rfl, HMK0.out⟩
      case round =>
        obtain ⟨q, hq, rfl, hmk⟩ := hrel
        have HMK := Lib.hid hmk
        have hs2 := hmk.below.size
        have hrow := hmk.row
        rw [← HN.out] at hrow
        clear HMK0
        by_cases hlt2 : q < 70
        · have hqq : (q : Int) < 70 := by omega
          have m0 : wr.cell? ⟨mb, 0, none⟩ = some (.int .i64 77) := cell_of_heap hmk.mark 0 rfl
          have m1 : wr.cell? ⟨mb, 1, none⟩ = some (.int .i64 (-77)) := cell_of_heap hmk.mark 1 rfl
          have HROW := Lib.hid hrow
          have hml := lt_of_heap hmk.mark
          clear hmk hrow
          go_wp2_with (at_builtin; refine wpList_append_lies _ rfl _ _ 64 rfl wo.heap.size 63 i0 _ 2 16 Try.underlying64 hi0 hz0 hz1 hz2 rfl (by decide) _ (n + q) (fateCells (z.F ++ List.replicate q (77, -77))) rfl (HROW.out.alloc _) ⟨wr.heap.size, 0, none⟩ 1 1 [.int .i64 77, .int .i64 (-77)] rfl rfl (World.news_of_block (cs := #[.int .i64 77, .int .i64 (-77)]) (t := 63) (fr := (0, 0)) (heap_alloc_new wr _)) (by intro u hu; simp at hu; rcases hu with rfl | rfl <;> rfl) (by omega) (by unfold maxLen; omega) (by omega) (by simp; omega) (wr.heap.size + 1) (by simp) ?_; intro gg cp w3 hown1 hgrow hat hlt3)
          have hM := Mk.step HMK.out hgrow hat (by rw [← HN.out]; exact hown1)
          rw [← HN.out] at hM
          have HM := Lib.hid hM
          clear hown1 hgrow hat hlt3 hM
          go_wp2_with fail
          go_roundw
          case rel => exact ⟨q + 1, by omega, by go_num, HM.out⟩
          case measure => simp [intOf]; omega
        · have hge : ¬ (q : Int) < 70 := by omega
          obtain rfl : q = 70 := by omega
          go_wp2_with fail
          have hrow2 := hrow
          obtain ⟨fb, fcap, fcur, rfl, hfb, hfh, hfc1, hfc2, hfc3, hfc4⟩ := hrow.2.resolve_left (fun h => by omega)
          have hfin : FateIn wr fb z.F := fateIn_of_row hrow2
          have HFIN := Lib.hid hfin
          have hgrow : FateRow wr ga n z.F := by
            obtain ⟨a, c, he, hr⟩ := fateRow_of_own hmk.other rfl
            cases he
            rw [HN.out]
            exact hr
          have HGROW := Lib.hid hgrow
          have htbq : wr.heap[tb]? = wo.heap[tb]? := hmk.below.block tb htl
          have c0 : wr.cell? ⟨tb, k * 2, none⟩ = some (.int .i64 z.lanes) := by
            refine cell_of_heap (htbq.trans HTB.out) _ ?_
            have hz := HZ.out
            rcases (show k = 0 ∨ k = 1 by omega) with rfl | rfl
            · rw [hz]; rfl
            · rw [hz]; rfl
          have hn1 : (n : Int) ≤ fcap := by omega
          have hn0 : (0 : Int) ≤ n := by omega
          have hzn : z.n = n := by rw [HN.out, HFL.out]
          have HZN := Lib.hid hzn
          have HFH := Lib.hid hfh
          have HFC := Lib.hid (And.intro hfc3 hfc4)
          clear hrow hrow2 hfin hgrow htbq hfc1 hfc2 hfc3 hfc4 hfh hmk hzn
          have hbwo := HMK.out.below
          have HBWO := Lib.hid hbwo
          by_cases hg : z.good
          · have hnew : ∀ W, FateIn W fb z.F → Calls Try.prog 12 #[.int .i64 z.lanes, .slice (some ⟨fb, 0, none⟩) n fcap] W (Newed W z.lanes.toNat z.F) := fun W hW => by
              have := New_good W z HFL.out hg fb fcap hW
              rw [HZN.out] at this
              exact this
            have hrnew : ∀ W, FateRow W ga n z.F → Calls Try.prog 32 #[.int .i64 z.lanes, .slice ga n gc] W (RNewed W z.lanes.toNat z.F) := fun W hW => by
              have := rNew_good W z hg ga gc (by rw [HZN.out]; exact hW)
              rw [HZN.out] at this
              exact this
            have HG := Lib.hid hg
            have HNEW := Lib.hid hnew
            have HRNEW := Lib.hid hrnew
            clear hg hnew hrnew hbwo
            go_region_held3 (fun w' => w'.cell? ⟨tb, k * 2, none⟩ = some (.int .i64 z.lanes))
              (go_keep)
              (first
                | (go_at_call 12; refine (HNEW.out _ (HFIN.out.still ((Mv.refl _ _).drew))).mono ?_; rintro e w2 ⟨own, A, rfl, hN, hbl, ho⟩; have hb2 : Below wr.heap.size wr w2 := (((Mv.refl _ _).drew).trans (Mv.of_below hbl)).below; have k0 : w2.cell? ⟨tb, k * 2, none⟩ = some (.int .i64 z.lanes) := (hb2.cell (p := ⟨tb, k * 2, none⟩) (by have := HBWO.out.size; show tb < wr.heap.size; omega)).trans c0; have HN2 := Lib.hid hN; have HB2 := Lib.hid hb2; have HO2 := Lib.hid ho; clear hN hbl hb2 ho))
            go_wp2_with fail
            refine (HRNEW.out _ (HGROW.out.still HB2.out)).mono ?_
            rintro e w3 ⟨own', G, rfl, hR3, hb3, ho3⟩
            have HR3 := Lib.hid hR3
            have HB3 := Lib.hid hb3
            have HO3 := Lib.hid ho3
            clear hR3 hb3 ho3
            have e70 : ((n : Int) + 70 == (n : Int) + 70) = true := by simp
            go_wp2_with fail
            have hw3b : Below wr.heap.size wr w3 := ((Mv.of_below HB2.out).trans (Mv.of_below HB3.out)).below
            have HW3 := Lib.hid hw3b
            clear hw3b
            have hw3 : w3.heap[fb]? = some (.cells fcur 63 (0, 0)) := (HW3.out.block fb (lt_of_heap HFH.out)).trans HFH.out
            have hfl0 : Fl fb n fcap (z.F ++ List.replicate 70 (77, -77)) 0 w3 w3 := Fl.start hw3 HFC.out.1 (by rw [List.length_append, List.length_replicate, ← HN.out]) HFC.out.2
            have HFL0 := Lib.hid hfl0
            have hmk3 : w3.heap[mb]? = some (.cells #[.int .i64 77, .int .i64 (-77)] 63 (0, 0)) := (HW3.out.block mb (lt_of_heap HMK.out.mark)).trans HMK.out.mark
            have HMK3 := Lib.hid hmk3
            have hg3 : FateRow w3 ga n z.F := HGROW.out.still HW3.out
            have HG3 := Lib.hid hg3
            have hnn : (n : Int) ≤ 140737488355327 := by omega
            obtain ⟨wp, hwp⟩ : ∃ W : World, W = wr := ⟨_, rfl⟩
            rw [← hwp] at HW3 HFH HMK HGROW HB2 HO2
            clear hwp hw3 hfl0 hmk3 hg3 e70
            go_loopw [17, 18] (fun kv j wr => ∃ q : Nat, q ≤ n + 70 ∧ j = .int .i64 q ∧ kv = .bool true ∧ Fl fb n fcap (z.F ++ List.replicate 70 (77, -77)) q w3 wr) (fun _ j _ => n + 70 - (intOf j).toNat)
            case atStart => exact ⟨0, by omega, rfl, rfl, HFL0.out⟩
            case round =>
              obtain ⟨q, hq, rfl, rfl, hfl⟩ := hrel
              have HFQ := Lib.hid hfl
              clear HFL0
              by_cases hlt3 : q < n + 70
              · have hqq : (q : Int) < (n : Int) + 70 := by omega
                have hq0 : (0 : Int) ≤ q := by omega
                obtain ⟨cur, f1, f2, f3, f4⟩ := hfl
                obtain ⟨g1, g2⟩ := f4 q (Nat.le_refl _) hlt3
                obtain ⟨x1, hx1⟩ : ∃ v, v = ((z.F ++ List.replicate 70 (77, -77)).getD q (0, 0)).1 := ⟨_, rfl⟩
                obtain ⟨x2, hx2⟩ : ∃ v, v = ((z.F ++ List.replicate 70 (77, -77)).getD q (0, 0)).2 := ⟨_, rfl⟩
                rw [← hx1] at g1
                rw [← hx2] at g2
                have d1 : wr.cell? ⟨fb, q * 2, none⟩ = some (.int .i64 x1) := cell_of_heap f1 _ g1
                have d2 : wr.cell? ⟨fb, q * 2 + 1, none⟩ = some (.int .i64 x2) := cell_of_heap f1 _ g2
                have d3 : wr.frozen? ⟨fb, q * 2, none⟩ = false := free_of_heap f1 _
                have d4 : wr.frozen? ⟨fb, q * 2 + 1, none⟩ = false := free_of_heap f1 _
                have HF3 := Lib.hid f3
                by_cases hqn : q < n
                · have hqn' : (q : Int) < n := by omega
                  have hget : (z.F ++ List.replicate 70 ((77 : Int), (-77 : Int))).getD q (0, 0) = z.F.getD q (0, 0) := by
                    rw [List.getD_eq_getElem?_getD, List.getD_eq_getElem?_getD, List.getElem?_append_left (by rw [← HN.out]; exact hqn)]
                  rw [hget] at hx1 hx2
                  obtain ⟨gb, goff, rfl, hgc⟩ := HG3.out.2.resolve_left (by omega)
                  obtain ⟨p1, p2⟩ := hgc q hqn
                  have hgl : gb < w3.heap.size := World.block_lt_of_cell? _ _ p1
                  have hgne : gb ≠ fb := fun e => (HMK.out.ne fb rfl).1 (by rw [← e]; rfl)
                  have e1 : wr.cell? ⟨gb, goff + q * 2, none⟩ = some (.int .i64 x1) := by rw [hx1]; exact (HF3.out.cell (p := ⟨gb, goff + q * 2, none⟩) hgl hgne).trans p1
                  have e2 : wr.cell? ⟨gb, goff + q * 2 + 1, none⟩ = some (.int .i64 x2) := by rw [hx2]; exact (HF3.out.cell (p := ⟨gb, goff + q * 2 + 1, none⟩) hgl hgne).trans p2
                  clear f1 f2 f3 f4 g1 g2 hx1 hx2 hget hgc p1 p2
                  go_wp2_with fail
                  go_quiet (fail)
                  go_wp2_with fail
                  go_roundw
                  case rel => exact ⟨q + 1, by omega, by go_num, rfl, by first | exact (HFQ.out.drew _).step _ _ | exact HFQ.out.step _ _⟩
                  case measure => simp [intOf]; omega
                · have hqn' : ¬ (q : Int) < n := by omega
                  have hget : (z.F ++ List.replicate 70 ((77 : Int), (-77 : Int))).getD q (0, 0) = (77, -77) := by
                    rw [List.getD_eq_getElem?_getD, List.getElem?_append_right (by rw [← HN.out]; omega), List.getElem?_replicate, if_pos (by rw [← HN.out]; omega)]; rfl
                  rw [hget] at hx1 hx2
                  subst hx1 hx2
                  have hml := lt_of_heap HMK3.out
                  have hmne : mb ≠ fb := fun e => (HMK.out.ne fb rfl).2 e.symm
                  have hmk4 := (HF3.out.block mb hml hmne).trans HMK3.out
                  have e1 : wr.cell? ⟨mb, 0, none⟩ = some (.int .i64 77) := cell_of_heap hmk4 0 rfl
                  have e2 : wr.cell? ⟨mb, 1, none⟩ = some (.int .i64 (-77)) := cell_of_heap hmk4 1 rfl
                  clear f1 f2 f3 f4 g1 g2 hget hmk4
                  go_wp2_with fail
                  go_quiet (fail)
                  go_wp2_with fail
                  go_roundw
                  case rel => exact ⟨q + 1, by omega, by go_num, rfl, by first | exact (HFQ.out.drew _).step _ _ | exact HFQ.out.step _ _⟩
                  case measure => simp [intOf]; omega
              · have hge3 : ¬ (q : Int) < (n : Int) + 70 := by omega
                obtain rfl : q = n + 70 := by omega
                obtain ⟨cur, f1, f2, f3, f4⟩ := hfl
                have HF3 := Lib.hid f3
                obtain ⟨C, hC, hCs⟩ := HR.out.play
                have hpl := lt_of_heap hC
                have hwo1 := HMK.out.below.size
                have hw31 := HW3.out.size
                have hpw : wr.heap[pb]? = some (.cells C 40 (0, 0)) := (f3.block pb (by omega) (by omega)).trans ((HW3.out.block pb (by omega)).trans ((HMK.out.below.block pb hpl).trans hC))
                have p0 : wr.cell? ⟨pb, k, none⟩ = some (C[k]'(by omega)) := cell_of_heap hpw _ (Array.getElem?_eq_getElem (by omega))
                have p1 : wr.cell? ⟨pb, 2 + k, none⟩ = some (C[2 + k]'(by omega)) := cell_of_heap hpw _ (Array.getElem?_eq_getElem (by omega))
                have p2 : wr.cell? ⟨pb, 4 + k, none⟩ = some (C[4 + k]'(by omega)) := cell_of_heap hpw _ (Array.getElem?_eq_getElem (by omega))
                have q0 : wr.frozen? ⟨pb, k, none⟩ = false := free_of_heap hpw _
                have q1 : wr.frozen? ⟨pb, 2 + k, none⟩ = false := free_of_heap hpw _
                have q2 : wr.frozen? ⟨pb, 4 + k, none⟩ = false := free_of_heap hpw _
                have hne1 : k ≠ 2 + k := by omega
                have hne2 : k ≠ 4 + k := by omega
                have hne3 : 2 + k ≠ 4 + k := by omega
                have hfbo : wo.heap.size ≤ fb := by omega
                clear f1 f2 f4 hC hpw
                go_wp2_with (first | (go_at_call 13; refine (num_any _ _).mono ?_; rintro r w' ⟨rfl, rfl⟩))
                go_roundw
                case rel =>
                  have hb2 := HB2.out
                  have hb3 := HB3.out
                  have hs2 := hb2.size
                  have hfbl : fb < wp.heap.size := lt_of_heap HFH.out
                  have hN : NetIs w2 own A (net0 z.lanes.toNat z.F) := HN2.out
                  exact ⟨k + 1, by omega, by go_num, HR.out.gives hlt HZ.out HG.out ((Mv.of_below HMK.out.below).trans (Mv.of_below HW3.out)) HF3.out hfbo HLT.out (hN.still (Mv.of_below hb3)) HR3.out (fun b hb => HO2.out b (by show b < wp.heap.size; omega)) (fun b hb => HO3.out b (by omega))
                    (fun b => by
                      rcases Nat.lt_or_ge b w2.heap.size with h | h
                      · exact .inr (HO3.out b h)
                      · exact .inl (hN.1.none h)) (HO2.out fb hfbl) (HO3.out fb (by omega))⟩
                case measure => simp [intOf]; omega
          · obtain ⟨er, her⟩ : ∃ v, v = z.err := ⟨_, rfl⟩
            have hnew : ∀ W, FateIn W fb z.F → Calls Try.prog 12 #[.int .i64 z.lanes, .slice (some ⟨fb, 0, none⟩) n fcap] W (RNone W er) := fun W hW => by
              have := New_none W z HFL.out hg fb fcap hW
              rw [HZN.out, ← her] at this
              exact this
            have hrnew : ∀ W, FateRow W ga n z.F → Calls Try.prog 32 #[.int .i64 z.lanes, .slice ga n gc] W (RNone W er) := fun W hW => by
              have := rNew_none W z hg ga gc (by rw [HZN.out]; exact hW)
              rw [HZN.out, ← her] at this
              exact this
            have HG := Lib.hid hg
            have HNEW := Lib.hid hnew
            have HRNEW := Lib.hid hrnew
            have hee : (er != er) = false := by simp
            clear hg hnew hrnew hbwo her
            go_region_held3 (fun w' => w'.cell? ⟨tb, k * 2, none⟩ = some (.int .i64 z.lanes))
              (go_keep)
              (first
                | (go_at_call 12; refine (HNEW.out _ (HFIN.out.still ((Mv.refl _ _).drew))).mono ?_; rintro e w2 ⟨rfl, hbl⟩; have hb2 : Below wr.heap.size wr w2 := (((Mv.refl _ _).drew).trans (Mv.of_below hbl)).below; have k0 : w2.cell? ⟨tb, k * 2, none⟩ = some (.int .i64 z.lanes) := (hb2.cell (p := ⟨tb, k * 2, none⟩) (by have := HBWO.out.size; show tb < wr.heap.size; omega)).trans c0; have HB2 := Lib.hid hb2; clear hbl hb2))
            go_wp2_with fail
            refine (HRNEW.out _ (HGROW.out.still HB2.out)).mono ?_
            rintro e w3 ⟨rfl, hb3⟩
            have HB3 := Lib.hid hb3
            clear hb3
            have e70 : ((n : Int) + 70 == (n : Int) + 70) = true := by simp
            go_wp2_with fail
            have hw3b : Below wr.heap.size wr w3 := ((Mv.of_below HB2.out).trans (Mv.of_below HB3.out)).below
            have HW3 := Lib.hid hw3b
            clear hw3b
            have hw3 : w3.heap[fb]? = some (.cells fcur 63 (0, 0)) := (HW3.out.block fb (lt_of_heap HFH.out)).trans HFH.out
            have hfl0 : Fl fb n fcap (z.F ++ List.replicate 70 (77, -77)) 0 w3 w3 := Fl.start hw3 HFC.out.1 (by rw [List.length_append, List.length_replicate, ← HN.out]) HFC.out.2
            have HFL0 := Lib.hid hfl0
            have hmk3 : w3.heap[mb]? = some (.cells #[.int .i64 77, .int .i64 (-77)] 63 (0, 0)) := (HW3.out.block mb (lt_of_heap HMK.out.mark)).trans HMK.out.mark
            have HMK3 := Lib.hid hmk3
            have hg3 : FateRow w3 ga n z.F := HGROW.out.still HW3.out
            have HG3 := Lib.hid hg3
            have hnn : (n : Int) ≤ 140737488355327 := by omega
            obtain ⟨wp, hwp⟩ : ∃ W : World, W = wr := ⟨_, rfl⟩
            rw [← hwp] at HW3 HFH HMK HGROW HB2
            clear hwp hw3 hfl0 hmk3 hg3 e70
            go_loopw [17, 18] (fun kv j wr => ∃ q : Nat, q ≤ n + 70 ∧ j = .int .i64 q ∧ kv = .bool true ∧ Fl fb n fcap (z.F ++ List.replicate 70 (77, -77)) q w3 wr) (fun _ j _ => n + 70 - (intOf j).toNat)
            case atStart => exact ⟨0, by omega, rfl, rfl, HFL0.out⟩
            case round =>
              obtain ⟨q, hq, rfl, rfl, hfl⟩ := hrel
              have HFQ := Lib.hid hfl
              clear HFL0
              by_cases hlt3 : q < n + 70
              · have hqq : (q : Int) < (n : Int) + 70 := by omega
                have hq0 : (0 : Int) ≤ q := by omega
                obtain ⟨cur, f1, f2, f3, f4⟩ := hfl
                obtain ⟨g1, g2⟩ := f4 q (Nat.le_refl _) hlt3
                obtain ⟨x1, hx1⟩ : ∃ v, v = ((z.F ++ List.replicate 70 (77, -77)).getD q (0, 0)).1 := ⟨_, rfl⟩
                obtain ⟨x2, hx2⟩ : ∃ v, v = ((z.F ++ List.replicate 70 (77, -77)).getD q (0, 0)).2 := ⟨_, rfl⟩
                rw [← hx1] at g1
                rw [← hx2] at g2
                have d1 : wr.cell? ⟨fb, q * 2, none⟩ = some (.int .i64 x1) := cell_of_heap f1 _ g1
                have d2 : wr.cell? ⟨fb, q * 2 + 1, none⟩ = some (.int .i64 x2) := cell_of_heap f1 _ g2
                have d3 : wr.frozen? ⟨fb, q * 2, none⟩ = false := free_of_heap f1 _
                have d4 : wr.frozen? ⟨fb, q * 2 + 1, none⟩ = false := free_of_heap f1 _
                have HF3 := Lib.hid f3
                by_cases hqn : q < n
                · have hqn' : (q : Int) < n := by omega
                  have hget : (z.F ++ List.replicate 70 ((77 : Int), (-77 : Int))).getD q (0, 0) = z.F.getD q (0, 0) := by
                    rw [List.getD_eq_getElem?_getD, List.getD_eq_getElem?_getD, List.getElem?_append_left (by rw [← HN.out]; exact hqn)]
                  rw [hget] at hx1 hx2
                  obtain ⟨gb, goff, rfl, hgc⟩ := HG3.out.2.resolve_left (by omega)
                  obtain ⟨p1, p2⟩ := hgc q hqn
                  have hgl : gb < w3.heap.size := World.block_lt_of_cell? _ _ p1
                  have hgne : gb ≠ fb := fun e => (HMK.out.ne fb rfl).1 (by rw [← e]; rfl)
                  have e1 : wr.cell? ⟨gb, goff + q * 2, none⟩ = some (.int .i64 x1) := by rw [hx1]; exact (HF3.out.cell (p := ⟨gb, goff + q * 2, none⟩) hgl hgne).trans p1
                  have e2 : wr.cell? ⟨gb, goff + q * 2 + 1, none⟩ = some (.int .i64 x2) := by rw [hx2]; exact (HF3.out.cell (p := ⟨gb, goff + q * 2 + 1, none⟩) hgl hgne).trans p2
                  clear f1 f2 f3 f4 g1 g2 hx1 hx2 hget hgc p1 p2
                  go_wp2_with fail
                  go_quiet (fail)
                  go_wp2_with fail
                  go_roundw
                  case rel => exact ⟨q + 1, by omega, by go_num, rfl, by first | exact (HFQ.out.drew _).step _ _ | exact HFQ.out.step _ _⟩
                  case measure => simp [intOf]; omega
                · have hqn' : ¬ (q : Int) < n := by omega
                  have hget : (z.F ++ List.replicate 70 ((77 : Int), (-77 : Int))).getD q (0, 0) = (77, -77) := by
                    rw [List.getD_eq_getElem?_getD, List.getElem?_append_right (by rw [← HN.out]; omega), List.getElem?_replicate, if_pos (by rw [← HN.out]; omega)]; rfl
                  rw [hget] at hx1 hx2
                  subst hx1 hx2
                  have hml := lt_of_heap HMK3.out
                  have hmne : mb ≠ fb := fun e => (HMK.out.ne fb rfl).2 e.symm
                  have hmk4 := (HF3.out.block mb hml hmne).trans HMK3.out
                  have e1 : wr.cell? ⟨mb, 0, none⟩ = some (.int .i64 77) := cell_of_heap hmk4 0 rfl
                  have e2 : wr.cell? ⟨mb, 1, none⟩ = some (.int .i64 (-77)) := cell_of_heap hmk4 1 rfl
                  clear f1 f2 f3 f4 g1 g2 hget hmk4
                  go_wp2_with fail
                  go_quiet (fail)
                  go_wp2_with fail
                  go_roundw
                  case rel => exact ⟨q + 1, by omega, by go_num, rfl, by first | exact (HFQ.out.drew _).step _ _ | exact HFQ.out.step _ _⟩
                  case measure => simp [intOf]; omega
              · have hge3 : ¬ (q : Int) < (n : Int) + 70 := by omega
                obtain rfl : q = n + 70 := by omega
                obtain ⟨cur, f1, f2, f3, f4⟩ := hfl
                have HF3 := Lib.hid f3
                obtain ⟨C, hC, hCs⟩ := HR.out.play
                have hpl := lt_of_heap hC
                have hwo1 := HMK.out.below.size
                have hw31 := HW3.out.size
                have hpw : wr.heap[pb]? = some (.cells C 40 (0, 0)) := (f3.block pb (by omega) (by omega)).trans ((HW3.out.block pb (by omega)).trans ((HMK.out.below.block pb hpl).trans hC))
                have p0 : wr.cell? ⟨pb, k, none⟩ = some (C[k]'(by omega)) := cell_of_heap hpw _ (Array.getElem?_eq_getElem (by omega))
                have p1 : wr.cell? ⟨pb, 2 + k, none⟩ = some (C[2 + k]'(by omega)) := cell_of_heap hpw _ (Array.getElem?_eq_getElem (by omega))
                have p2 : wr.cell? ⟨pb, 4 + k, none⟩ = some (C[4 + k]'(by omega)) := cell_of_heap hpw _ (Array.getElem?_eq_getElem (by omega))
                have q0 : wr.frozen? ⟨pb, k, none⟩ = false := free_of_heap hpw _
                have q1 : wr.frozen? ⟨pb, 2 + k, none⟩ = false := free_of_heap hpw _
                have q2 : wr.frozen? ⟨pb, 4 + k, none⟩ = false := free_of_heap hpw _
                have hne1 : k ≠ 2 + k := by omega
                have hne2 : k ≠ 4 + k := by omega
                have hne3 : 2 + k ≠ 4 + k := by omega
                have hfbo : wo.heap.size ≤ fb := by omega
                clear f1 f2 f4 hC hpw
                go_wp2_with (first | (go_at_call 13; refine (num_any _ _).mono ?_; rintro r w' ⟨rfl, rfl⟩))
                go_roundw
                case rel => exact ⟨k + 1, by omega, by go_num, HR.out.gone hlt HZ.out HG.out ((((Mv.of_below HMK.out.below).trans (Mv.of_below HW3.out)).mono (G := fun b => b = fb) (fun _ _ h => h.elim)).trans' HF3.out (fun _ _ h => h)) hfbo HLT.out⟩
                case measure => simp [intOf]; omega
    · have hge : ¬ (k : Int) < 2 := by omega
      obtain rfl : k = 2 := by omega
      go_wp2_with fail
      go_ret2
      exact HR.out.finish
end Go.Proofs.Ytadalodjnbnjkaa
