/- proof.climbed. -/
import Derived.Test.YtdfdikpklddnhaaGreatDoorEr18
namespace Go.Proofs.YtdfdikpklddnhaaGreatDoor
open Go.RowKit
set_option linter.unusedSimpArgs false

/-- Hashes that lie at a place. -/
def HsAt (w : World) (g off : Nat) (p : List Bs) : Prop := ∀ (j : Nat) h, p[j]? = some h → h.length = 32 ∧ ∀ (t : Nat) u, (h.map byteV)[t]? = some u → w.cell? ⟨g, off + j * 32 + t, none⟩ = some u
/-- A slice of hashes. -/
def HsIn (w : World) (v : Value) (p : List Bs) : Prop := (v = .slice none 0 0 ∧ p = []) ∨ ∃ g off cap, v = .slice (some ⟨g, off, none⟩) p.length cap ∧ p.length ≤ cap ∧ HsAt w g off p ∧ (p ≠ [] → g < w.heap.size)
theorem HsIn.mv {M : Nat → Prop} {w w' : World} {v : Value} {p : List Bs} (h : HsIn w v p) (hm : Mv M w w') (hM : ∀ g, g < w.heap.size → ¬ M g) : HsIn w' v p := by
  rcases h with h | ⟨g, off, cap, h1, h2, h3, h4⟩
  · exact .inl h
  · refine .inr ⟨g, off, cap, h1, h2, fun j h hj => ⟨(h3 j h hj).1, fun t u hu => ?_⟩, fun hne => Nat.lt_of_lt_of_le (h4 hne) hm.size⟩
    have hg : g < w.heap.size := h4 (fun e => by rw [e] at hj; simp at hj)
    exact (hm.cell (p := ⟨g, off + j * 32 + t, none⟩) hg (hM g hg)).trans ((h3 j h hj).2 t u hu)
def climbStep (k : Int) (t : Nd) (s : Step) (h : Bs) : Nd := if s.right = true then .joined t (.given h) (nodeP k t.sum h) else .joined (.given h) t (nodeP k h t.sum)
def climbN (k : Int) (leaf : Bs) (way : List Step) (p : List Bs) : Nat → Nd
  | 0 => .given leaf
  | j + 1 => climbStep k (climbN k leaf way p j) (way.getD j ⟨0, 0, false⟩) (p.getD j [])
/-- The nodes so far. -/
def NodesAt (w : World) (vs : List Value) (F : Nat → Nd) : Prop := ∀ (j : Nat) v, vs[j]? = some v → NodeAt w v (F j)
theorem build_given (cs : Array Value) (h : cs.size = 32) : Array.foldl (fun cs x => cs.setIfInBounds x.snd x.fst) (#[.int .u8 0, .int .u8 0, .int .u8 0, .int .u8 0, .int .u8 0, .int .u8 0, .int .u8 0, .int .u8 0, .int .u8 0, .int .u8 0, .int .u8 0, .int .u8 0, .int .u8 0, .int .u8 0, .int .u8 0, .int .u8 0, .int .u8 0, .int .u8 0, .int .u8 0, .int .u8 0, .int .u8 0, .int .u8 0, .int .u8 0, .int .u8 0, .int .u8 0, .int .u8 0, .int .u8 0, .int .u8 0, .int .u8 0, .int .u8 0, .int .u8 0, .int .u8 0] : Array Value) (cs.zipIdx 0) 0 32 = cs := by
  obtain ⟨l⟩ := cs
  have hl : l.length = 32 := by simpa using h
  have hsz : 32 = ((⟨l⟩ : Array Value).zipIdx 0).size := by simp [hl]
  rw [hsz, ← Array.foldl_toList]
  have e : ((⟨l⟩ : Array Value).zipIdx 0).toList = l.zipIdx 0 := by simp
  rw [e]
  obtain ⟨_, h2⟩ := fold_set 0 l 0 #[.int .u8 0, .int .u8 0, .int .u8 0, .int .u8 0, .int .u8 0, .int .u8 0, .int .u8 0, .int .u8 0, .int .u8 0, .int .u8 0, .int .u8 0, .int .u8 0, .int .u8 0, .int .u8 0, .int .u8 0, .int .u8 0, .int .u8 0, .int .u8 0, .int .u8 0, .int .u8 0, .int .u8 0, .int .u8 0, .int .u8 0, .int .u8 0, .int .u8 0, .int .u8 0, .int .u8 0, .int .u8 0, .int .u8 0, .int .u8 0, .int .u8 0, .int .u8 0]
  simp only [Nat.zero_add] at h2
  apply Array.ext_getElem?
  intro i
  rw [h2, hl]
  simp only [List.size_toArray, List.length_cons, List.length_nil]
  by_cases hi : i < 32
  · rw [if_pos ⟨Nat.zero_le _, hi, hi⟩]; simp
  · rw [if_neg (by omega), Array.getElem?_eq_none (by simp; omega), Array.getElem?_eq_none (by simp [hl]; omega)]
theorem build_givenL (l : List Value) (hl : l.length = 32) : List.foldl (fun cs x => cs.setIfInBounds x.snd x.fst) (#[.int .u8 0, .int .u8 0, .int .u8 0, .int .u8 0, .int .u8 0, .int .u8 0, .int .u8 0, .int .u8 0, .int .u8 0, .int .u8 0, .int .u8 0, .int .u8 0, .int .u8 0, .int .u8 0, .int .u8 0, .int .u8 0, .int .u8 0, .int .u8 0, .int .u8 0, .int .u8 0, .int .u8 0, .int .u8 0, .int .u8 0, .int .u8 0, .int .u8 0, .int .u8 0, .int .u8 0, .int .u8 0, .int .u8 0, .int .u8 0, .int .u8 0, .int .u8 0] : Array Value) l.zipIdx = l.toArray := by
  have h := build_given l.toArray (by simp [hl])
  have hsz : 32 = (l.toArray.zipIdx 0).size := by simp [hl]
  rw [hsz, ← Array.foldl_toList] at h
  simpa using h
theorem HsIn.shape {w : World} {v : Value} {p : List Bs} (h : HsIn w v p) : ∃ a c, v = .slice a p.length c := by
  rcases h with ⟨rfl, rfl⟩ | ⟨g, off, cap, rfl, _⟩
  · exact ⟨_, _, rfl⟩
  · exact ⟨_, _, rfl⟩
theorem NodeAt.iface {w : World} : ∀ {v : Value} {t : Nd}, NodeAt w v t → ∃ ty x, v = .iface ty x
  | _, .given _, h => ⟨_, _, h.2⟩
  | _, .joined _ _ _, ⟨_, _, _, _, h, _⟩ => ⟨_, _, h⟩
theorem NodesAt.mv {w w' : World} {vs : List Value} {F : Nat → Nd} (h : NodesAt w vs F) (hm : Mv (fun _ => False) w w') : NodesAt w' vs F := fun j v hv => (h j v hv).mv hm
/-- Nodes stay where blocks of another type turn. -/
theorem NodeAt.mvT {F : Nat → Prop} {w w' : World} (hm : Mv F w w') (hF : ∀ b, F b → ∀ c, w.heap[b]? ≠ some (.cells c 309 (0, 0))) : ∀ {v : Value} {t : Nd}, NodeAt w v t → NodeAt w' v t
  | _, .given _, h => h
  | _, .joined _ _ _, ⟨h1, J, vl, vr, h2, h3, h4, h5⟩ => ⟨h1, J, vl, vr, h2, (hm.block J (lt_of_heap h3) (fun hf => hF J hf _ h3)).trans h3, NodeAt.mvT hm hF h4, NodeAt.mvT hm hF h5⟩
theorem own_not309 {w : World} {B : Nat} {v : Value} {n : Nat} {vs : List Value} (h : w.ownsRow B 177 1 v n vs) (b : Nat) (hb : v.ownBlock = some b) (c : Array Value) : w.heap[b]? ≠ some (.cells c 309 (0, 0)) := fun e => by
  rcases h.2 with ⟨rfl, _⟩ | ⟨g, cap, cur, rfl, _, hg, _⟩
  · cases hb
  · cases hb
    rw [hg] at e
    simp at e
theorem HsIn.at {w : World} {a : Option Addr} {c : Nat} {p : List Bs} (h : HsIn w (.slice a p.length c) p) (j : Nat) (hj : j < p.length) :
    ∃ g off, a = some ⟨g, off, none⟩ ∧ p.length ≤ c ∧ (p.getD j []).length = 32 ∧ ∀ (t : Nat) u, ((p.getD j []).map byteV)[t]? = some u → w.cell? ⟨g, off + j * 32 + t, none⟩ = some u := by
  rcases h with ⟨_, rfl⟩ | ⟨g, off, cap, hv, hc, hh, _⟩
  · simp at hj
  · have hx : p[j]? = some (p.getD j []) := by simp [hj]
    obtain ⟨h1, h2⟩ := hh j _ hx
    simp only [Value.slice.injEq] at hv
    exact ⟨g, off, hv.1, by rw [hv.2.2]; exact hc, h1, h2⟩
theorem way_at {w : World} {B n : Nat} {a : Option Addr} {c : Nat} {way : List Step} (h : w.ownsRow B 174 3 (.slice a n c) way.length (stepsV way)) (j : Nat) (hj : j < way.length) :
    ∃ g, a = some ⟨g, 0, none⟩ ∧ w.cell? ⟨g, j * 3, none⟩ = some (.int .i64 (way.getD j ⟨0, 0, false⟩).a) ∧ w.cell? ⟨g, j * 3 + 1, none⟩ = some (.int .i64 (way.getD j ⟨0, 0, false⟩).b) ∧ w.cell? ⟨g, j * 3 + 2, none⟩ = some (.bool (way.getD j ⟨0, 0, false⟩).right) := by
  have hne : way.map Step.cells ≠ [] := by intro e; simp at e; rw [e] at hj; simp at hj
  obtain ⟨g, cap, hv, _, _, hrow⟩ := owns_rowG (way.map Step.cells) (step_len way) (by rw [List.length_map]; exact h) hne
  have hr := hrow.range j (by rw [List.length_map]; exact hj)
  have hx : (way.map Step.cells).getD j [] = (way.getD j ⟨0, 0, false⟩).cells := by simp [hj]
  simp only [Value.slice.injEq] at hv
  exact ⟨g, hv.1, hr 0 _ (by rw [hx]; rfl), hr 1 _ (by rw [hx]; rfl), hr 2 _ (by rw [hx]; rfl)⟩
theorem Tryz.info177 : (Tryz.prog.info? 177).map (fun i => (i.zero, i.size, i.bytes)) = some (some .nilIface, 1, 16) := by kernel_rfl
set_option maxRecDepth 100000 in
set_option maxHeartbeats 3200000 in
theorem climbed_any (k : Int) (pv wv : Value) (p : List Bs) (way : List Step) (leaf : Bs) (B0 : Nat) (w : World) (hp : HsIn w pv p) (hw : w.ownsRow B0 174 3 wv way.length (stepsV way)) (hlen : p.length = way.length) (hb : way.length ≤ 64) (hl : leaf.length = 32) (he : EnvH w) :
    Calls Tryz.prog 146 #[.int .i64 k, pv, wv, hashV leaf] w fun e w' => ∃ v vs, e = .returned v ∧ w'.ownsRow w.heap.size 177 1 v (way.length + 1) vs ∧ NodesAt w' vs (climbN k leaf way p) ∧ Mv (fun _ => False) w w' := by
  obtain ⟨i0, hi0, hz0, hz1, hz2⟩ := info_parts Tryz.info177
  obtain ⟨cs, hcs⟩ : ∃ cs, cs = (leaf.map byteV).toArray := ⟨_, rfl⟩
  unfold hashV
  rw [← hcs]
  have hcsz : cs.size = 32 := by rw [hcs]; simp [hl]
  have HCS := Lib.hid hcs
  have hbg := build_given cs hcsz
  obtain ⟨pa, pc, hpv⟩ := hp.shape
  subst hpv
  obtain ⟨wa, wc, hwv⟩ := owns_shape hw
  subst hwv
  obtain ⟨n, hn⟩ : ∃ n, n = way.length := ⟨_, rfl⟩
  rw [hlen]
  rw [← hn] at hb ⊢
  have HN := Lib.hid hn
  have HI34 : Hid ((Tryz.prog.info? 34).map (·.size) = some cs.size) := Lib.hid (by rw [hcsz]; exact info34)
  have HP := Lib.hid hp
  have HW := Lib.hid hw
  have HLN := Lib.hid hlen
  have HL := Lib.hid hl
  have HE := Lib.hid he
  clear hcs hp hw hl he hlen hn
  go_enter Tryz.func146, Tryz.ntmps146
  go_wp2_with (first
    | (refine wpList_load_row rfl 34 _ rfl w.heap.size rfl 34 cs (0, 0) _ (heap_alloc_new _ _) Tryz.underlying34 rfl HI34.out ?_))
  have hown1 : ((w.alloc (.cells cs 34)).alloc (.cells #[.iface 248 (.agg cs)] 177)).ownsRow w.heap.size 177 1 (.slice (some ⟨w.heap.size + 1, 0, none⟩) 1 1) 1 [.iface 248 (.agg cs)] := by
    refine ⟨rfl, .inr ⟨w.heap.size + 1, 1, #[.iface 248 (.agg cs)], rfl, by omega, ?_, Nat.le_refl _, by unfold maxLen; decide, rfl, rfl⟩⟩
    rw [show w.heap.size + 1 = (w.alloc (.cells cs 34)).heap.size by simp]
    exact heap_alloc_new _ _
  have hm1 : Mv (fun _ => False) w ((w.alloc (.cells cs 34)).alloc (.cells #[.iface 248 (.agg cs)] 177)) := ((Mv.refl _ _).alloc _).alloc _
  have hn0 : NodeAt ((w.alloc (.cells cs 34)).alloc (.cells #[.iface 248 (.agg cs)] 177)) (.iface 248 (.agg cs)) (climbN k leaf way p 0) := ⟨HL.out, by rw [HCS.out]; rfl⟩
  generalize hW1 : (w.alloc _).alloc _ = W1
  rw [hW1] at hown1 hm1 hn0
  have HOWN1 := Lib.hid hown1
  have HM1 := Lib.hid hm1
  have HN0 := Lib.hid hn0
  clear hW1 hown1 hm1 hn0
  go_loopw [9, 10, 22] (fun s9 s10 i wr => ∃ (j : Nat) (vs : List Value), j ≤ n ∧ i = .int .i64 j ∧ wr.ownsRow w.heap.size 177 1 s9 (j + 1) vs ∧ NodesAt wr vs (climbN k leaf way p) ∧ NodeAt wr s10 (climbN k leaf way p j) ∧ Mv (fun _ => False) w wr) (fun _ _ i _ => n - (intOf i).toNat)
  case atStart => exact ⟨0, [.iface 248 (.agg cs)], by omega, rfl, HOWN1.out, fun j v hv => by
    match j, hv with
    | 0, hv => cases hv; exact HN0.out
    | j + 1, hv => simp at hv, HN0.out, HM1.out⟩
  case round =>
    obtain ⟨j, vs, hj, rfl, hown, hns, hat, hmv⟩ := hrel
    obtain ⟨na, nc, hsh⟩ := owns_shape hown
    subst hsh
    have HOWN := Lib.hid hown
    have HNS := Lib.hid hns
    have HAT := Lib.hid hat
    have HMV := Lib.hid hmv
    have hwsz := hmv.size
    by_cases hjn : j < n
    · obtain ⟨gw, hgw, w0, w1, w2⟩ := way_at (owns_mv HW.out hmv (fun _ _ _ h => h)) j (by rw [← HN.out]; exact hjn)
      obtain ⟨gp, op, hgp, hpc, hh32, hpcells⟩ := HsIn.at (HP.out.mv hmv (fun _ _ h => h)) j (by rw [HLN.out, ← HN.out]; exact hjn)
      subst hgw hgp
      obtain ⟨s, hs⟩ : ∃ s, s = way.getD j ⟨0, 0, false⟩ := ⟨_, rfl⟩
      rw [← hs] at w0 w1 w2
      obtain ⟨hb0, hh⟩ : ∃ hb0, hb0 = p.getD j [] := ⟨_, rfl⟩
      rw [← hh] at hh32 hpcells
      have HSS := Lib.hid hs
      have HHH := Lib.hid hh
      have HH32 := Lib.hid hh32
      obtain ⟨hc, hhc⟩ : ∃ hc, hc = hb0.map byteV := ⟨_, rfl⟩
      rw [← hhc] at hpcells
      have hhl : hc.length = 32 := by rw [hhc, List.length_map]; exact hh32
      have hbg2 := build_givenL hc hhl
      have HPC : Hid (∀ (o : Obj) (t : Nat) u, hc[t]? = some u → (wr.alloc o).cell? ⟨gp, op + j * 32 + t, none⟩ = some u) := Lib.hid fun o t u hu =>
        (World.cell?_of_block (Below.heap_alloc _ _ _ (World.block_lt_of_cell? _ _ (hpcells t u hu)))).trans (hpcells t u hu)
      have HHC := Lib.hid hhc
      have HIL : Hid ((Tryz.prog.info? 34).map (·.size) = some hc.length) := Lib.hid (by rw [hhl]; exact info34)
      have hstep : climbN k leaf way p (j + 1) = climbStep k (climbN k leaf way p j) s hb0 := by rw [HSS.out, HHH.out]; rfl
      have HSTEP := Lib.hid hstep
      have hpj : (j : Int) < n := by omega
      have hwlen : (j : Int) < n := by omega
      have HLC : Hid (hc.length = 32) := Lib.hid hhl
      have hcap : n ≤ pc := by rw [HN.out, ← HLN.out]; exact hpc
      clear hown hns hat hmv hs hh hh32 hpcells hhc hstep hpc
      rcases hsr : s.right with _ | _
      · rw [hsr] at w2
        have HSR := Lib.hid hsr
        clear hsr
        go_wp2_with (first
          | (refine wpList_load_cellsAt rfl 34 _ rfl gp (op + j * 32) rfl hc _ (HPC.out _) Tryz.underlying34 rfl HIL.out ?_))
        have hj := fun o : Obj => join_any k (.iface 248 (hashV hb0)) u10 (.given hb0) (climbN k leaf way p j) (wr.alloc o) ⟨HH32.out, rfl⟩ (HAT.out.mv ((Mv.refl _ _).alloc _)) (HE.out.mv (HMV.out.alloc _) (fun _ h => h.elim))
        rw [show hashV hb0 = .agg hc.toArray by rw [HHC.out]; rfl] at hj
        refine (hj _).mono ?_
        rintro e w5 ⟨v5, rfl, hv5, hm5⟩
        have HV5 : Hid (NodeAt w5 v5 (climbN k leaf way p (j + 1))) := Lib.hid (by rw [HSTEP.out]; unfold climbStep; rw [HSR.out]; exact hv5)
        have HM5 : Hid (Mv (fun _ => False) wr w5) := Lib.hid (((Mv.refl _ _).alloc _).trans hm5)
        obtain ⟨ty, x5, hx5⟩ := hv5.iface
        subst hx5
        have HOWN5 := Lib.hid (owns_mv HOWN.out HM5.out (fun _ _ _ h => h))
        have hw5 : w.heap.size ≤ w5.heap.size := Nat.le_trans hwsz HM5.out.size
        clear hj hv5 hm5 w0 w1 w2 hbg hbg2 hhl
        go_wp2_with (first
          | (at_builtin; go_loud (refine wpList_append_own _ rfl _ _ 258 rfl w.heap.size 177 i0 .nilIface 1 16 Tryz.underlying258 hi0 hz0 hz1 hz2 rfl (by decide) _ _ _ rfl (HOWN5.out.alloc _) ⟨w5.heap.size, 0, none⟩ 1 1 [.iface ty x5] rfl rfl (cell_one_new _ _ _) (by intro u hu; simp at hu; subst hu; rfl) (by unfold maxLen; omega) (by omega) (by simp; omega) ?_; intro v6 w6 hown6 hgrow6 hnil6; have HM6 : Hid (Mv (fun g => w.heap.size ≤ g) w5 w6) := Lib.hid (((Mv.refl _ _).alloc _).grown hgrow6 (fun k hk => .inl (HOWN5.out.lt k hk).1)); have HOWN6 := Lib.hid hown6; have HG6 : Hid (Mv (fun b => (Value.slice na (j + 1) nc).ownBlock = some b) w5 w6) := Lib.hid (((Mv.refl _ _).alloc _).grown hgrow6 (fun k hk => .inl hk)); clear hown6 hgrow6 hnil6)))
        go_roundw
        case rel =>
            have hT := own_not309 HOWN5.out
            refine ⟨j + 1, vs ++ [.iface ty x5], by omega, by go_num, HOWN6.out, fun i v hv => ?_, NodeAt.mvT HG6.out hT HV5.out, (HMV.out.trans HM5.out).trans' HM6.out (fun i hi h => by omega)⟩
            have hvl : vs.length = j + 1 := by have := HOWN5.out.1; simpa using this
            by_cases hi : i < vs.length
            · rw [List.getElem?_append_left hi] at hv
              exact NodeAt.mvT HG6.out hT ((HNS.out i v hv).mv HM5.out)
            · rw [List.getElem?_append_right (by omega)] at hv
              have hi2 : i - vs.length = 0 := by
                apply Classical.byContradiction
                intro hc
                rw [List.getElem?_eq_none (by simp; omega)] at hv; cases hv
              rw [hi2] at hv
              cases hv
              rw [show i = j + 1 by omega]
              exact NodeAt.mvT HG6.out hT HV5.out
        case measure => simp [intOf]; omega
      · rw [hsr] at w2
        have HSR := Lib.hid hsr
        clear hsr
        go_wp2_with (first
          | (refine wpList_load_cellsAt rfl 34 _ rfl gp (op + j * 32) rfl hc _ (HPC.out _) Tryz.underlying34 rfl HIL.out ?_))
        have hj := fun o : Obj => join_any k u10 (.iface 248 (hashV hb0)) (climbN k leaf way p j) (.given hb0) (wr.alloc o) (HAT.out.mv ((Mv.refl _ _).alloc _)) ⟨HH32.out, rfl⟩ (HE.out.mv (HMV.out.alloc _) (fun _ h => h.elim))
        rw [show hashV hb0 = .agg hc.toArray by rw [HHC.out]; rfl] at hj
        refine (hj _).mono ?_
        rintro e w5 ⟨v5, rfl, hv5, hm5⟩
        have HV5 : Hid (NodeAt w5 v5 (climbN k leaf way p (j + 1))) := Lib.hid (by rw [HSTEP.out]; unfold climbStep; rw [HSR.out]; exact hv5)
        have HM5 : Hid (Mv (fun _ => False) wr w5) := Lib.hid (((Mv.refl _ _).alloc _).trans hm5)
        obtain ⟨ty, x5, hx5⟩ := hv5.iface
        subst hx5
        have HOWN5 := Lib.hid (owns_mv HOWN.out HM5.out (fun _ _ _ h => h))
        have hw5 : w.heap.size ≤ w5.heap.size := Nat.le_trans hwsz HM5.out.size
        clear hj hv5 hm5 w0 w1 w2 hbg hbg2 hhl
        go_wp2_with (first
          | (at_builtin; go_loud (refine wpList_append_own _ rfl _ _ 258 rfl w.heap.size 177 i0 .nilIface 1 16 Tryz.underlying258 hi0 hz0 hz1 hz2 rfl (by decide) _ _ _ rfl (HOWN5.out.alloc _) ⟨w5.heap.size, 0, none⟩ 1 1 [.iface ty x5] rfl rfl (cell_one_new _ _ _) (by intro u hu; simp at hu; subst hu; rfl) (by unfold maxLen; omega) (by omega) (by simp; omega) ?_; intro v6 w6 hown6 hgrow6 hnil6; have HM6 : Hid (Mv (fun g => w.heap.size ≤ g) w5 w6) := Lib.hid (((Mv.refl _ _).alloc _).grown hgrow6 (fun k hk => .inl (HOWN5.out.lt k hk).1)); have HOWN6 := Lib.hid hown6; have HG6 : Hid (Mv (fun b => (Value.slice na (j + 1) nc).ownBlock = some b) w5 w6) := Lib.hid (((Mv.refl _ _).alloc _).grown hgrow6 (fun k hk => .inl hk)); clear hown6 hgrow6 hnil6)))
        go_roundw
        case rel =>
            have hT := own_not309 HOWN5.out
            refine ⟨j + 1, vs ++ [.iface ty x5], by omega, by go_num, HOWN6.out, fun i v hv => ?_, NodeAt.mvT HG6.out hT HV5.out, (HMV.out.trans HM5.out).trans' HM6.out (fun i hi h => by omega)⟩
            have hvl : vs.length = j + 1 := by have := HOWN5.out.1; simpa using this
            by_cases hi : i < vs.length
            · rw [List.getElem?_append_left hi] at hv
              exact NodeAt.mvT HG6.out hT ((HNS.out i v hv).mv HM5.out)
            · rw [List.getElem?_append_right (by omega)] at hv
              have hi2 : i - vs.length = 0 := by
                apply Classical.byContradiction
                intro hc
                rw [List.getElem?_eq_none (by simp; omega)] at hv; cases hv
              rw [hi2] at hv
              cases hv
              rw [show i = j + 1 by omega]
              exact NodeAt.mvT HG6.out hT HV5.out
        case measure => simp [intOf]; omega
    · have hjn2 : j = n := by omega
      subst hjn2
      clear hbg hown hns hat hmv
      go_wp2_with fail
      go_ret
      exact ⟨_, vs, rfl, HOWN.out, HNS.out, HMV.out⟩
end Go.Proofs.YtdfdikpklddnhaaGreatDoor

/- ClimbRecord, CheckRecord. -/
namespace Go.Proofs.YtdfdikpklddnhaaGreatDoor
open Go.RowKit
set_option linter.unusedSimpArgs false

def sizedP (n : Int) : Bool := decide (1 ≤ n ∧ n ≤ 281474976710656)
set_option maxRecDepth 100000 in
theorem sized_any (n : Int) (w : World) : Calls Tryz.prog 89 #[.int .i64 n] w fun e w' => e = .returned (.bool (sizedP n)) ∧ w = w' := by
  by_cases h1 : 1 ≤ n
  · by_cases h2 : n ≤ 281474976710656
    · have e : sizedP n = true := decide_eq_true ⟨h1, h2⟩
      rw [e]
      clear e
      go_enter Tryz.func89, Tryz.ntmps89
      go_wp2
      go_ret
      exact ⟨rfl, rfl⟩
    · have e : sizedP n = false := decide_eq_false (fun h => h2 h.2)
      rw [e]
      clear e
      have h2' : 281474976710656 < n := by omega
      go_enter Tryz.func89, Tryz.ntmps89
      go_wp2
      go_ret
      exact ⟨rfl, rfl⟩
  · have e : sizedP n = false := decide_eq_false (fun h => h1 h.1)
    rw [e]
    clear e
    have h1' : n < 1 := by omega
    go_enter Tryz.func89, Tryz.ntmps89
    go_wp2
    go_ret
    exact ⟨rfl, rfl⟩
/-- The error of a record's proof. -/
def climbErr (n i : Int) (p : List Bs) : Int := if ¬ (sizedP n = true) ∨ i < 0 ∨ n ≤ i then 1 else if p.length ≠ (wayRec n.toNat i.toNat).length then 90 else 0
def climbRoot (k : Int) (n i : Int) (leaf : Bs) (p : List Bs) : Bs := (climbN k leaf (wayRec n.toNat i.toNat) p (wayRec n.toNat i.toNat).length).sum
def zero32 : Bs := List.replicate 32 0
theorem wayDown_len (stop : Nat → Nat → Bool) (left : Nat → Bool) : ∀ (k a b : Nat), b ≤ 281474976710656 → b - a ≤ 2 ^ k → (wayDown stop left a b).1.length ≤ k
  | k, a, b, hb, hk => by
    by_cases h1 : stop a b = true ∨ b < a + 2
    · rw [wayDown, if_pos h1]; exact Nat.zero_le _
    · obtain ⟨j, hj, h2, h3⟩ := half_left a b k (by omega) hb hk
      have hc := cutN_in a b (by omega)
      rw [wayDown, if_neg h1]
      by_cases h4 : left (cutN a b) = true
      · rw [if_pos h4]
        have := wayDown_len stop left j a (cutN a b) (by omega) h2
        simp only [List.length_cons]; omega
      · rw [if_neg h4]
        have := wayDown_len stop left j (cutN a b) b hb h3
        simp only [List.length_cons]; omega
theorem wayRec_len (n i : Nat) (hn : n ≤ 281474976710656) (_hi : i < n) : (wayRec n i).length ≤ 64 := by
  unfold wayRec
  rw [List.length_reverse]
  exact Nat.le_trans (wayDown_len _ _ 48 0 n hn (by omega)) (by decide)
def z32B : Array Value := #[.int .u8 0, .int .u8 0, .int .u8 0, .int .u8 0, .int .u8 0, .int .u8 0, .int .u8 0, .int .u8 0, .int .u8 0, .int .u8 0, .int .u8 0, .int .u8 0, .int .u8 0, .int .u8 0, .int .u8 0, .int .u8 0, .int .u8 0, .int .u8 0, .int .u8 0, .int .u8 0, .int .u8 0, .int .u8 0, .int .u8 0, .int .u8 0, .int .u8 0, .int .u8 0, .int .u8 0, .int .u8 0, .int .u8 0, .int .u8 0, .int .u8 0, .int .u8 0]
theorem info34z : (Tryz.prog.info? 34).map (·.size) = some z32B.size := by kernel_rfl
theorem z32_oneB : z32B.all (·.oneCell') = true := by kernel_rfl
theorem zero32_V : (zero32.map byteV).toArray = z32B := by kernel_rfl
theorem zero32_W : hashV zero32 = .agg z32B := by unfold hashV; rw [zero32_V]
theorem results_ct {fn : Func} {t p : Tmp} {ty : TypeId} (h : fn.results = #[.cell p ty, .tmp t]) (tmps : Array Value) (w : World) (b : Nat) (et : TypeId) (cs : Array Value) (u : Value) (d : TypeDesc) (ht : tmps.getD t undef = u) (hp : tmps.getD p undef = .pointer (some ⟨b, 0, none⟩)) (hg : w.heap[b]? = some (.cells cs et (0, 0)))
    (hu : Tryz.prog.underlying ty = some d) (hd : d.isRow = true) (hi : (Tryz.prog.info? ty).map (·.size) = some cs.size) :
    (results fn tmps).run Tryz.prog w = .ok (.tuple #[.agg cs, u]) w := by
  have e := run_loadVar_row w b et ty cs (0, 0) d hg hu (by cases d <;> first | rfl | simp [TypeDesc.isRow] at hd) hi
  have ht' : tmps[t]?.getD undef = u := by simpa using ht
  have hp' : tmps[p]?.getD undef = .pointer (some ⟨b, 0, none⟩) := by simpa using hp
  simp only [results, h]
  simp [Result.andThen, asAddr, e, ht', hp']
/-- What ClimbRecord answers. -/
def climbAns (k n i : Int) (leaf : Bs) (p : List Bs) : Value := .tuple #[hashV (if climbErr n i p = 0 then climbRoot k n i leaf p else zero32), .int .i64 (climbErr n i p)]
theorem climbAns_bad (k n i : Int) (leaf : Bs) (p : List Bs) (c : Int) (h : climbErr n i p = c) (hc : c ≠ 0) : climbAns k n i leaf p = .tuple #[.agg z32B, .int .i64 c] := by
  unfold climbAns
  rw [h, if_neg hc, zero32_W]
theorem climbAns_ok (k n i : Int) (leaf : Bs) (p : List Bs) (h : climbErr n i p = 0) : climbAns k n i leaf p = .tuple #[hashV (climbRoot k n i leaf p), .int .i64 0] := by
  unfold climbAns
  rw [h, if_pos rfl]
set_option maxRecDepth 100000 in
set_option maxHeartbeats 3200000 in
theorem climbRecord_any (k n i : Int) (pv : Value) (p : List Bs) (leaf : Bs) (w : World) (hp : HsIn w pv p) (hl : leaf.length = 32) (hpl : p.length ≤ 1099511627776) (he : EnvH w) :
    Calls Tryz.prog 98 #[.int .i64 k, pv, .int .i64 n, .int .i64 i, hashV leaf] w fun e w' =>
      e = .returned (climbAns k n i leaf p) ∧ Mv (fun _ => False) w w' := by
  obtain ⟨cs, hcs⟩ : ∃ cs, cs = (leaf.map byteV).toArray := ⟨_, rfl⟩
  rw [show hashV leaf = .agg cs by rw [hcs]; rfl]
  have hcsz : cs.size = 32 := by rw [hcs]; simp [hl]
  have HCS := Lib.hid hcs
  have HCSZ := Lib.hid hcsz
  have HI34 : Hid ((Tryz.prog.info? 34).map (·.size) = some cs.size) := Lib.hid (by rw [hcsz]; exact info34)
  obtain ⟨pa, pc, hpv⟩ := hp.shape
  subst hpv
  have HP := Lib.hid hp
  have HL := Lib.hid hl
  have HE := Lib.hid he
  have K := sized_any n
  by_cases hs : sizedP n = true
  · have hs1 : 1 ≤ n ∧ n ≤ 281474976710656 := of_decide_eq_true hs
    rw [hs] at K
    have HK := Lib.hid K
    by_cases hi : 0 ≤ i ∧ i < n
    · obtain ⟨N, hN⟩ : ∃ N : Nat, n = N := ⟨n.toNat, by omega⟩
      obtain ⟨I, hI⟩ : ∃ I : Nat, i = I := ⟨i.toNat, by omega⟩
      subst hN hI
      have hIN : I < N := by omega
      have hN48 : N ≤ 281474976710656 := by omega
      have hce : climbErr N I p = if p.length ≠ (wayRec N I).length then 90 else 0 := by
        unfold climbErr
        rw [if_neg (by rw [hs]; simp; omega)]
        rfl
      have HCE := Lib.hid hce
      have hii : (I : Int) < N := by omega
      clear hcs hcsz hp hl he hs K hce hi
      go_enter Tryz.func98, Tryz.ntmps98
      go_upto_region 1 with fail
      generalize hZ : (#[_, _, _, _, _, _, _, _, _, _, _, _, _, _, _, _, _, _, _, _, _, _, _, _, _, _, _, _, _, _, _, _] : Array Value) = Z
      have hZs : Z.size = 32 := by rw [← hZ]; rfl
      obtain ⟨A, hA⟩ : ∃ A, A = w.heap.size := ⟨_, rfl⟩
      have h1 : ((w.alloc (.cells cs 34)).alloc (.cells Z 34)).heap[w.heap.size]? = some (.cells cs 34 (0, 0)) := (Below.heap_alloc _ _ _ (by simp)).trans (heap_alloc_new _ _)
      have h2 : ((w.alloc (.cells cs 34)).alloc (.cells Z 34)).heap[w.heap.size + 1]? = some (.cells Z 34 (0, 0)) := by
        rw [show w.heap.size + 1 = (w.alloc (.cells cs 34)).heap.size by simp]; exact heap_alloc_new _ _
      have hm : Mv (fun _ => False) w ((w.alloc (.cells cs 34)).alloc (.cells Z 34)) := ((Mv.refl _ _).alloc _).alloc _
      generalize hW1 : (w.alloc (.cells cs 34)).alloc (.cells Z 34) = W1
      rw [hW1] at h1 h2 hm
      rw [← hA] at h1 h2 ⊢
      have H1 := Lib.hid h1
      have H2 := Lib.hid h2
      have HM := Lib.hid hm
      have HA := Lib.hid hA
      have HZS := Lib.hid hZs
      clear hZ hZs hW1 h1 h2 hm hA
      go_wp2_with (first
        | (go_at_call 89; refine (HK.out _).mono ?_; rintro e w1 ⟨rfl, rfl⟩))
      refine (wayOf_any N I W1 hN48 hIN).mono ?_
      rintro e w2 ⟨wv, rfl, hown, hm2⟩
      obtain ⟨wa, wc, hwv⟩ := owns_shape hown
      subst hwv
      have HOWN2 := Lib.hid hown
      have HM2 : Hid (Mv (fun _ => False) w w2) := Lib.hid (HM.out.trans hm2)
      have hr2 : Hid (w2.heap[A + 1]? = some (.cells Z 34 (0, 0))) := Lib.hid ((hm2.block _ (lt_of_heap H2.out) id).trans H2.out)
      have ha2 : Hid (w2.heap[A]? = some (.cells cs 34 (0, 0))) := Lib.hid ((hm2.block _ (lt_of_heap H1.out) id).trans H1.out)
      obtain ⟨L, hL⟩ : ∃ L, L = (wayRec N I).length := ⟨_, rfl⟩
      rw [← hL]
      have HLL := Lib.hid hL
      obtain ⟨pl, hpl2⟩ : ∃ pl, pl = p.length := ⟨_, rfl⟩
      rw [← hpl2] at hpl ⊢
      have HPLL := Lib.hid hpl2
      have hL64 := wayRec_len N I hN48 hIN
      rw [← hL] at hL64
      clear hown hm2 hL hpl2
      by_cases hq : pl = L
      · subst hq
        have HPL : Hid (p.length = (wayRec N I).length) := Lib.hid (by rw [← HPLL.out, HLL.out])
        go_wp2_with (first
          | (refine wpList_load_row rfl 34 _ rfl A rfl 34 cs (0, 0) _ ha2.out Tryz.underlying34 rfl HI34.out ?_))
        have hcl := climbed_any k (.slice pa p.length pc) (.slice wa (wayRec N I).length wc) p (wayRec N I) leaf _ w2 (HP.out.mv HM2.out (fun _ _ h => h)) HOWN2.out HPL.out (by rw [← HLL.out]; exact hL64) HL.out (HE.out.mv HM2.out (fun _ h => h.elim))
        rw [← HPLL.out, ← HLL.out, show hashV leaf = .agg cs by rw [HCS.out]; rfl] at hcl
        refine hcl.mono ?_
        rintro e w4 ⟨nv, vs, rfl, hnown, hnodes, hm4⟩
        have HM4 : Hid (Mv (fun _ => False) w w4) := Lib.hid (HM2.out.trans hm4)
        have hr4 : Hid (w4.heap[A + 1]? = some (.cells Z 34 (0, 0))) := Lib.hid ((hm4.block _ (lt_of_heap hr2.out) id).trans hr2.out)
        have hvl : vs.length = pl + 1 := by have := hnown.1; simpa using this
        obtain ⟨lv, hlv⟩ : ∃ lv, vs[pl]? = some lv := ⟨vs[pl]'(by omega), List.getElem?_eq_getElem _⟩
        have hnode := hnodes pl lv hlv
        obtain ⟨gn, cn, hnv, hcell⟩ : ∃ gn cn, nv = .slice (some ⟨gn, 0, none⟩) (pl + 1) cn ∧ w4.cell? ⟨gn, pl, none⟩ = some lv := by
          rcases hnown.2 with ⟨_, h⟩ | ⟨g, c, cur, rfl, hb, hg, hc, hm, hcs, htk⟩
          · cases h
          · refine ⟨g, c, rfl, ?_⟩
            rw [cell_of_row _ _ _ _ _ _ hg]
            rw [← htk, List.getElem?_take] at hlv
            split at hlv
            · simpa using hlv
            · cases hlv
        subst hnv
        obtain ⟨t, ht⟩ : ∃ t, t = climbN k leaf (wayRec N I) p pl := ⟨_, rfl⟩
        rw [← ht] at hnode
        have HROOT : Hid (climbRoot k N I leaf p = t.sum) := Lib.hid (by unfold climbRoot; rw [ht, HLL.out]; rfl)
        have hmg := method_given
        have hmj := method_joined
        clear hcl hnown hnodes hm4 hvl hlv ht
        cases t with
        | given hh =>
          obtain ⟨hhl, rfl⟩ := hnode
          have HHL := Lib.hid hhl
          clear hhl
          go_wp2_with fail
          refine (givenSum_any hh w4 HHL.out).mono ?_
          rintro e w5 ⟨rfl, hm5⟩
          have HM5 : Hid (Mv (fun _ => False) w w5) := Lib.hid (HM4.out.trans hm5)
          have hr5 : Hid (w5.heap[A + 1]? = some (.cells Z 34 (0, 0))) := Lib.hid ((hm5.block _ (lt_of_heap hr4.out) id).trans hr4.out)
          obtain ⟨rs, hrs⟩ : ∃ rs, rs = (hh.map byteV).toArray := ⟨_, rfl⟩
          have hrsz : rs.size = 32 := by rw [hrs]; simp [HHL.out]
          rw [show hashV hh = .agg rs by rw [hrs]; rfl]
          have HRS := Lib.hid hrs
          have HRSZ := Lib.hid hrsz
          have HONE : Hid (rs.all (·.oneCell') = true) := Lib.hid (by rw [hrs]; exact hash_one hh)
          have HIR : Hid ((Tryz.prog.info? 34).map (·.size) = some rs.size) := Lib.hid (by rw [hrsz]; exact info34)
          have HZC : Hid (Z.size = rs.size) := Lib.hid (by rw [HZS.out, hrsz])
          clear hm5 hrs hrsz
          go_wp2_with (first
            | (refine wpList_store_row rfl 34 _ _ rfl (A + 1) rs rfl rfl 34 Z hr5.out HIR.out HZC.out HONE.out ?_))
          refine bodyPost_ret (results_ct (fn := Tryz.f98) rfl _ _ (A + 1) 34 rs (.int .i64 0) _ rfl rfl (setRow_heap _ _ _ _ _ _ hr5.out) Tryz.underlying34 rfl HIR.out) rfl ?_
          refine ⟨?_, HM5.out.setRow (.inr (by have := HA.out; omega)) _⟩
          rw [climbAns_ok k N I leaf p (by rw [HCE.out, if_neg (by rw [HPL.out]; simp)]), HROOT.out, HRS.out]
          rfl
        | joined t1 t2 hh =>
          obtain ⟨hhl, J, ul, ur, rfl, hj, _, _⟩ := hnode
          have HHL := Lib.hid hhl
          have HJ := Lib.hid hj
          clear hhl hj
          go_wp2_with fail
          refine (joinedSum_any hh J ul ur w4 HHL.out HJ.out).mono ?_
          rintro e w5 ⟨rfl, hm5⟩
          have HM5 : Hid (Mv (fun _ => False) w w5) := Lib.hid (HM4.out.trans hm5)
          have hr5 : Hid (w5.heap[A + 1]? = some (.cells Z 34 (0, 0))) := Lib.hid ((hm5.block _ (lt_of_heap hr4.out) id).trans hr4.out)
          obtain ⟨rs, hrs⟩ : ∃ rs, rs = (hh.map byteV).toArray := ⟨_, rfl⟩
          have hrsz : rs.size = 32 := by rw [hrs]; simp [HHL.out]
          rw [show hashV hh = .agg rs by rw [hrs]; rfl]
          have HRS := Lib.hid hrs
          have HRSZ := Lib.hid hrsz
          have HONE : Hid (rs.all (·.oneCell') = true) := Lib.hid (by rw [hrs]; exact hash_one hh)
          have HIR : Hid ((Tryz.prog.info? 34).map (·.size) = some rs.size) := Lib.hid (by rw [hrsz]; exact info34)
          have HZC : Hid (Z.size = rs.size) := Lib.hid (by rw [HZS.out, hrsz])
          clear hm5 hrs hrsz
          go_wp2_with (first
            | (refine wpList_store_row rfl 34 _ _ rfl (A + 1) rs rfl rfl 34 Z hr5.out HIR.out HZC.out HONE.out ?_))
          refine bodyPost_ret (results_ct (fn := Tryz.f98) rfl _ _ (A + 1) 34 rs (.int .i64 0) _ rfl rfl (setRow_heap _ _ _ _ _ _ hr5.out) Tryz.underlying34 rfl HIR.out) rfl ?_
          refine ⟨?_, HM5.out.setRow (.inr (by have := HA.out; omega)) _⟩
          rw [climbAns_ok k N I leaf p (by rw [HCE.out, if_neg (by rw [HPL.out]; simp)]), HROOT.out, HRS.out]
          rfl
      · have hqi : ((pl : Int) != L) = true := by simp; omega
        have hce90 : climbErr N I p = 90 := by rw [HCE.out, if_pos (by rw [← HPLL.out, ← HLL.out]; exact hq)]
        have HCE90 := Lib.hid hce90
        clear hce90
        go_wp2_with (first
          | (refine wpList_store_row rfl 34 _ _ rfl (A + 1) z32B rfl rfl 34 Z hr2.out info34z (HZS.out.trans rfl) z32_oneB ?_))
        refine bodyPost_ret (results_ct (fn := Tryz.f98) rfl _ _ (A + 1) 34 z32B (.int .i64 90) _ rfl rfl (setRow_heap _ _ _ _ _ _ hr2.out) Tryz.underlying34 rfl info34z) rfl ?_
        exact ⟨by rw [climbAns_bad k N I leaf p 90 HCE90.out (by decide)], HM2.out.setRow (.inr (by have := HA.out; omega)) _⟩
    · have hce : climbErr n i p = 1 := by unfold climbErr; rw [if_pos (by omega)]
      rw [climbAns_bad k n i leaf p 1 hce (by decide)]
      by_cases hi0 : i < 0
      · clear hcs hcsz hp hl he hs hce K hi
        go_enter Tryz.func98, Tryz.ntmps98
        go_upto_region 1 with fail
        generalize hZ : (#[_, _, _, _, _, _, _, _, _, _, _, _, _, _, _, _, _, _, _, _, _, _, _, _, _, _, _, _, _, _, _, _] : Array Value) = Z
        have hZs : Z.size = 32 := by rw [← hZ]; rfl
        obtain ⟨A, hA⟩ : ∃ A, A = w.heap.size := ⟨_, rfl⟩
        have h1 : ((w.alloc (.cells cs 34)).alloc (.cells Z 34)).heap[w.heap.size]? = some (.cells cs 34 (0, 0)) := (Below.heap_alloc _ _ _ (by simp)).trans (heap_alloc_new _ _)
        have h2 : ((w.alloc (.cells cs 34)).alloc (.cells Z 34)).heap[w.heap.size + 1]? = some (.cells Z 34 (0, 0)) := by
          rw [show w.heap.size + 1 = (w.alloc (.cells cs 34)).heap.size by simp]; exact heap_alloc_new _ _
        have hm : Mv (fun _ => False) w ((w.alloc (.cells cs 34)).alloc (.cells Z 34)) := ((Mv.refl _ _).alloc _).alloc _
        generalize hW1 : (w.alloc (.cells cs 34)).alloc (.cells Z 34) = W1
        rw [hW1] at h1 h2 hm
        rw [← hA] at h1 h2 ⊢
        have H1 := Lib.hid h1
        have H2 := Lib.hid h2
        have HM := Lib.hid hm
        have HA := Lib.hid hA
        have HZS := Lib.hid hZs
        clear hZ hZs hW1 h1 h2 hm hA
        go_wp2_with (first
          | (go_at_call 89; refine (HK.out _).mono ?_; rintro e w1 ⟨rfl, rfl⟩)
          | (refine wpList_store_row rfl 34 _ _ rfl (A + 1) z32B rfl rfl 34 Z H2.out info34z (HZS.out.trans rfl) z32_oneB ?_))
        refine bodyPost_ret (results_ct (fn := Tryz.f98) rfl _ _ (A + 1) 34 z32B (.int .i64 1) _ rfl rfl (setRow_heap _ _ _ _ _ _ H2.out) Tryz.underlying34 rfl info34z) rfl ?_
        exact ⟨rfl, HM.out.setRow (.inr (by have := HA.out; omega)) _⟩
      · have hin : n ≤ i := by omega
        clear hcs hcsz hp hl he hs hce K hi
        go_enter Tryz.func98, Tryz.ntmps98
        go_upto_region 1 with fail
        generalize hZ : (#[_, _, _, _, _, _, _, _, _, _, _, _, _, _, _, _, _, _, _, _, _, _, _, _, _, _, _, _, _, _, _, _] : Array Value) = Z
        have hZs : Z.size = 32 := by rw [← hZ]; rfl
        obtain ⟨A, hA⟩ : ∃ A, A = w.heap.size := ⟨_, rfl⟩
        have h1 : ((w.alloc (.cells cs 34)).alloc (.cells Z 34)).heap[w.heap.size]? = some (.cells cs 34 (0, 0)) := (Below.heap_alloc _ _ _ (by simp)).trans (heap_alloc_new _ _)
        have h2 : ((w.alloc (.cells cs 34)).alloc (.cells Z 34)).heap[w.heap.size + 1]? = some (.cells Z 34 (0, 0)) := by
          rw [show w.heap.size + 1 = (w.alloc (.cells cs 34)).heap.size by simp]; exact heap_alloc_new _ _
        have hm : Mv (fun _ => False) w ((w.alloc (.cells cs 34)).alloc (.cells Z 34)) := ((Mv.refl _ _).alloc _).alloc _
        generalize hW1 : (w.alloc (.cells cs 34)).alloc (.cells Z 34) = W1
        rw [hW1] at h1 h2 hm
        rw [← hA] at h1 h2 ⊢
        have H1 := Lib.hid h1
        have H2 := Lib.hid h2
        have HM := Lib.hid hm
        have HA := Lib.hid hA
        have HZS := Lib.hid hZs
        clear hZ hZs hW1 h1 h2 hm hA
        go_wp2_with (first
          | (go_at_call 89; refine (HK.out _).mono ?_; rintro e w1 ⟨rfl, rfl⟩)
          | (refine wpList_store_row rfl 34 _ _ rfl (A + 1) z32B rfl rfl 34 Z H2.out info34z (HZS.out.trans rfl) z32_oneB ?_))
        refine bodyPost_ret (results_ct (fn := Tryz.f98) rfl _ _ (A + 1) 34 z32B (.int .i64 1) _ rfl rfl (setRow_heap _ _ _ _ _ _ H2.out) Tryz.underlying34 rfl info34z) rfl ?_
        exact ⟨rfl, HM.out.setRow (.inr (by have := HA.out; omega)) _⟩
  · have hs0 : sizedP n = false := by simpa using hs
    have hce : climbErr n i p = 1 := by unfold climbErr; rw [if_pos (.inl hs)]
    rw [climbAns_bad k n i leaf p 1 hce (by decide)]
    rw [hs0] at K
    have HK := Lib.hid K
    clear hcs hcsz hp hl he hs hs0 hce K
    go_enter Tryz.func98, Tryz.ntmps98
    go_upto_region 1 with fail
    generalize hZ : (#[_, _, _, _, _, _, _, _, _, _, _, _, _, _, _, _, _, _, _, _, _, _, _, _, _, _, _, _, _, _, _, _] : Array Value) = Z
    have hZs : Z.size = 32 := by rw [← hZ]; rfl
    obtain ⟨A, hA⟩ : ∃ A, A = w.heap.size := ⟨_, rfl⟩
    have h1 : ((w.alloc (.cells cs 34)).alloc (.cells Z 34)).heap[w.heap.size]? = some (.cells cs 34 (0, 0)) := (Below.heap_alloc _ _ _ (by simp)).trans (heap_alloc_new _ _)
    have h2 : ((w.alloc (.cells cs 34)).alloc (.cells Z 34)).heap[w.heap.size + 1]? = some (.cells Z 34 (0, 0)) := by
      rw [show w.heap.size + 1 = (w.alloc (.cells cs 34)).heap.size by simp]; exact heap_alloc_new _ _
    have hm : Mv (fun _ => False) w ((w.alloc (.cells cs 34)).alloc (.cells Z 34)) := ((Mv.refl _ _).alloc _).alloc _
    generalize hW1 : (w.alloc (.cells cs 34)).alloc (.cells Z 34) = W1
    rw [hW1] at h1 h2 hm
    rw [← hA] at h1 h2 ⊢
    have H1 := Lib.hid h1
    have H2 := Lib.hid h2
    have HM := Lib.hid hm
    have HA := Lib.hid hA
    have HZS := Lib.hid hZs
    clear hZ hZs hW1 h1 h2 hm hA
    go_wp2_with (first
      | (go_at_call 89; refine (HK.out _).mono ?_; rintro e w1 ⟨rfl, rfl⟩)
      | (refine wpList_store_row rfl 34 _ _ rfl (A + 1) z32B rfl rfl 34 Z H2.out info34z (HZS.out.trans rfl) z32_oneB ?_))
    refine bodyPost_ret (results_ct (fn := Tryz.f98) rfl _ _ (A + 1) 34 z32B (.int .i64 1) _ rfl rfl (setRow_heap _ _ _ _ _ _ H2.out) Tryz.underlying34 rfl info34z) rfl ?_
    exact ⟨rfl, HM.out.setRow (.inr (by have := HA.out; omega)) _⟩
end Go.Proofs.YtdfdikpklddnhaaGreatDoor
