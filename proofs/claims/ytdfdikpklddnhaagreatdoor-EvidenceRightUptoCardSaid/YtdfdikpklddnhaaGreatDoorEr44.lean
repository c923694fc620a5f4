/- The law's start. Printed by gen/genstt.py. -/
import Derived.Test.YtdfdikpklddnhaaGreatDoorEr43
import Derived.Great.BuildSlice
namespace Go.Proofs.YtdfdikpklddnhaaGreatDoor
open Go.RowKit
set_option linter.unusedSimpArgs false

theorem fill_f (place : Nat → Option (Nat × Nat)) (cs : List Value) (i off : Nat) (v : Value) (rest : List (Nat × Value)) (hp : place i = some (off, v.cells.size)) (hz : off + v.cells.size ≤ cs.length) :
    Instr.fill place cs.toArray ((i, v) :: rest) = Instr.fill place (cs.take off ++ v.cells.toList ++ cs.drop (off + v.cells.size)).toArray rest := by
  have hl : (cs.take off).length = off := by rw [List.length_take]; omega
  have h := fill_block place i v (cs.take off) (cs.drop off) rest (by rw [hl]; exact hp) (by rw [List.length_drop]; omega)
  rw [List.take_append_drop, List.drop_drop] at h
  exact h
theorem z75_list : z75.toList = [.int .i64 0, .string ⟨#[]⟩, .string ⟨#[]⟩, .int .i64 0, .string ⟨#[]⟩] ++ head0.V ++ head0.V ++ [.slice none 0 0, .slice none 0 0] := by kernel_rfl
theorem head0_len : head0.V.length = 34 := by kernel_rfl
theorem z75_arr : z75 = ([.int .i64 0, .string ⟨#[]⟩, .string ⟨#[]⟩, .int .i64 0, .string ⟨#[]⟩] ++ head0.V ++ head0.V ++ [.slice none 0 0, .slice none 0 0] : List Value).toArray := by rw [← z75_list]
theorem built_f01 (k : Int) : Tryz.prog.built 61 [(0, .int .i64 2), (5, .agg (f01 k).old.V.toArray), (6, .agg (f01 k).head.V.toArray)] = some ((f01 k).cells (.slice none 0 0) (.slice none 0 0)).toArray := by
  rw [built_any, z75_arr]
  have l0 := head0_len
  have l1 : (f01 k).old.V.length = 34 := HeadP.V_len _ (emptyP_length k)
  have l2 : (f01 k).head.V.length = 34 := HeadP.V_len _ (leafP_length k _)
  obtain ⟨O, hO⟩ : ∃ O, O = head0.V := ⟨_, rfl⟩
  obtain ⟨OV, hOV⟩ : ∃ x, x = (f01 k).old.V := ⟨_, rfl⟩
  obtain ⟨HV, hHV⟩ : ∃ x, x = (f01 k).head.V := ⟨_, rfl⟩
  have hc : (f01 k).cells (.slice none 0 0) (.slice none 0 0) = [.int .i64 2, .string ⟨#[]⟩, .string ⟨#[]⟩, .int .i64 0, .string ⟨#[]⟩] ++ OV ++ HV ++ [.slice none 0 0, .slice none 0 0] := by rw [hOV, hHV]; rfl
  rw [hc, ← hO, ← hOV, ← hHV]
  rw [← hO] at l0
  rw [← hOV] at l1
  rw [← hHV] at l2
  rw [fill_f _ _ 0 0 _ _ rfl (by simp [Value.cells]), fill_f _ _ 5 5 _ _ (by simp [Value.cells, l1]) (by simp [Value.cells, l0, l1]), fill_f _ _ 6 39 _ _ (by simp [Value.cells, l2]) (by simp [Value.cells, l0, l1, l2])]
  unfold Instr.fill
  simp [Value.cells, l0, l1, l2, List.take_append, List.drop_append]
theorem built_f02 (k : Int) : Tryz.prog.built 61 [(0, .int .i64 1), (1, .string p0), (2, .string v0), (4, .string r0), (6, .agg (f02 k).head.V.toArray)] = some ((f02 k).cells (.slice none 0 0) (.slice none 0 0)).toArray := by
  rw [built_any, z75_arr]
  have l0 := head0_len
  have l2 : (f02 k).head.V.length = 34 := HeadP.V_len _ (leafP_length k _)
  have e0 : (f02 k).old.V = head0.V := rfl
  obtain ⟨O, hO⟩ : ∃ O, O = head0.V := ⟨_, rfl⟩
  rw [← hO] at l0 e0 ⊢
  rw [fill_f _ _ 0 0 _ _ rfl (by simp [Value.cells]), fill_f _ _ 1 1 _ _ rfl (by simp [Value.cells]), fill_f _ _ 2 2 _ _ rfl (by simp [Value.cells]), fill_f _ _ 4 4 _ _ rfl (by simp [Value.cells]), fill_f _ _ 6 39 _ _ (by simp [Value.cells, l2]) (by simp [Value.cells, l0, l2])]
  unfold Instr.fill
  simp [Value.cells, l0, l2, FactP.cells, List.take_append, List.drop_append, e0]
  simp [f02]
theorem fill_two (Z : Array Value) (c1 c2 : Array Value) (hZ : Z.size = 150) (h1 : c1.size = 75) (h2 : c2.size = 75) : Instr.fill (fun i => some (i * 75, 75)) Z [(0, .agg c1), (1, .agg c2)] = some (c1 ++ c2) := by
  have z : Z = Z.toList.toArray := by simp
  rw [z]
  obtain ⟨L, hL⟩ : ∃ L, L = Z.toList := ⟨_, rfl⟩
  have hl : L.length = 150 := by rw [hL]; simpa using hZ
  rw [← hL]
  rw [fill_f _ _ 0 0 _ _ (by simp [Value.cells, h1]) (by simp [Value.cells, h1, hl]), fill_f _ _ 1 75 _ _ (by simp [Value.cells, h2]) (by simp [Value.cells, h1, h2, hl])]
  unfold Instr.fill
  simp [Value.cells, h1, h2, hl, List.take_append, List.drop_append]
theorem wp_slice54two {o : Oper} {a : Act} {w : World} {K : Act → World → Prop} {Q : Exit → Act → World → Prop} (x y : Operand) (ho : o.op = .buildSlice 54 2 #[(0, x), (1, y)]) (c1 c2 : Array Value) (hx : a.eval x = .agg c1) (hy : a.eval y = .agg c2) (h1 : c1.size = 75) (h2 : c2.size = 75)
    (h : K (a.put o.dst (.slice (some ⟨w.heap.size, 0, none⟩) 2 2)) (w.alloc (.cells (c1 ++ c2) 61))) : o.wp Tryz.prog a w K Q := by
  obtain ⟨i0, hi0, hz0, hz1, hz2⟩ := info_parts Tryz.info61f
  refine wp_buildSlice 54 61 2 _ ho (c1 ++ c2) i0 (.agg z75) Tryz.underlying54 hi0 hz0 (by rw [hz1]; decide) (by rw [hz1]; decide) ?_ h
  rw [hz1]
  simp only [List.map_toArray, List.map_cons, List.map_nil, hx, hy]
  exact fill_two _ c1 c2 (by simp) h1 h2
theorem t0_lit : (t0.map byteV).toArray = #[.int .u8 1, .int .u8 0, .int .u8 0, .int .u8 0, .int .u8 0, .int .u8 0, .int .u8 0, .int .u8 0, .int .u8 0, .int .u8 0, .int .u8 0, .int .u8 0, .int .u8 0, .int .u8 0, .int .u8 0, .int .u8 0, .int .u8 0, .int .u8 0, .int .u8 0, .int .u8 0, .int .u8 0, .int .u8 0, .int .u8 0, .int .u8 0, .int .u8 0, .int .u8 0, .int .u8 0, .int .u8 0, .int .u8 0, .int .u8 0, .int .u8 0, .int .u8 0] := by kernel_rfl
theorem m0_lit : (m0.map byteV).toArray = #[.int .u8 2, .int .u8 0, .int .u8 0, .int .u8 0, .int .u8 0, .int .u8 0, .int .u8 0, .int .u8 0, .int .u8 0, .int .u8 0, .int .u8 0, .int .u8 0, .int .u8 0, .int .u8 0, .int .u8 0, .int .u8 0, .int .u8 0, .int .u8 0, .int .u8 0, .int .u8 0, .int .u8 0, .int .u8 0, .int .u8 0, .int .u8 0, .int .u8 0, .int .u8 0, .int .u8 0, .int .u8 0, .int .u8 0, .int .u8 0, .int .u8 0, .int .u8 0] := by kernel_rfl
theorem found0 (k : Int) {w' : World} {B : Nat} {fcs : Array Value} (h : Found w' B k [f01 k, f02 k] p0 v0 fcs) : fcs[4]? = some (.string r0) := by
  obtain ⟨i, f, pv, nv, h1, h2, h3, _⟩ := h.2.2.2 (findE0 k)
  rw [first0] at h1
  have hi1 : i = 1 := by omega
  subst hi1
  cases h2
  rw [h3]
  rfl
theorem facts0_in (k : Int) (w : World) (B : Nat) (h : w.heap[B]? = some (.cells (((f01 k).cells (.slice none 0 0) (.slice none 0 0)).toArray ++ ((f02 k).cells (.slice none 0 0) (.slice none 0 0)).toArray) 61 (0, 0))) : FactsIn w (.slice (some ⟨B, 0, none⟩) 2 2) [f01 k, f02 k] := by
  have o1 : (f01 k).Ok := ⟨emptyP_length k, leafP_length k _⟩
  have o2 : (f02 k).Ok := ⟨rfl, leafP_length k _⟩
  have l1 := FactP.cells_len (f01 k) (.slice none 0 0) (.slice none 0 0) o1
  refine ⟨_, 2, rfl, Nat.le_refl _, fun j f hf => ⟨B, 0, rfl, ?_⟩⟩
  match j, hf with
  | 0, hf =>
    cases hf
    refine ⟨o1, ⟨(by decide : (⟨#[]⟩ : ByteArray).size ≤ 1048576), Nat.zero_le _⟩, _, _, fun t u hu => ?_, .inl ⟨rfl, rfl⟩, .inl ⟨rfl, rfl⟩⟩
    rw [cell_of_row _ _ _ _ _ _ h, List.append_toArray, List.getElem?_toArray]
    have ht := (List.getElem?_eq_some_iff.1 hu).1
    rw [show 0 + 0 * 75 + t = t by omega, List.getElem?_append_left ht]; exact hu
  | 1, hf =>
    cases hf
    refine ⟨o2, ⟨Nat.le_trans r0_size (by decide), Nat.zero_le _⟩, _, _, fun t u hu => ?_, .inl ⟨rfl, rfl⟩, .inl ⟨rfl, rfl⟩⟩
    rw [cell_of_row _ _ _ _ _ _ h, List.append_toArray, List.getElem?_toArray]
    rw [List.getElem?_append_right (by rw [l1]; omega), l1, show 0 + 1 * 75 + t - 75 = t by omega]; exact hu
  | n + 2, hf => simp at hf
set_option maxRecDepth 100000 in
set_option maxHeartbeats 3200000 in
theorem lawStart_any (k : Int) (w : World) (he : EnvH w) (henv : EnvP w) :
    Calls Tryz.prog 17 #[.int .i64 k] w fun e w' => e = .returned (.bool true) ∧ Mv (fun _ => False) w w' := by
  have HE := Lib.hid he
  have HENV := Lib.hid henv
  obtain ⟨r, hr⟩ : ∃ r, r = r0 := ⟨_, rfl⟩
  have HR0 := Lib.hid hr
  have hrz : r.size ≤ 1024 := by rw [hr]; exact r0_size
  obtain ⟨lc, hlc⟩ : ∃ x, x = ((leafP k r.data.toList).map byteV).toArray := ⟨_, rfl⟩
  have hlz : lc.size = 32 := by rw [hlc]; simp [leafP_length]
  obtain ⟨ec, hec⟩ : ∃ x, x = ((emptyP k).map byteV).toArray := ⟨_, rfl⟩
  have hez : ec.size = 32 := by rw [hec]; simp [emptyP_length]
  obtain ⟨hv, hhv⟩ : ∃ x, x = (hd0 k).V.toArray := ⟨_, rfl⟩
  obtain ⟨ov, hov⟩ : ∃ x, x = (f01 k).old.V.toArray := ⟨_, rfl⟩
  have hbj := build_joined (.string ⟨#[111]⟩) (.int .i64 1) lc hlz
  have hbo := build_joined (.string ⟨#[111]⟩) (.int .i64 0) ec hez
  have hh2 : #[.string ⟨#[111]⟩, .int .i64 1] ++ lc = hv := by rw [hhv, hlc, hr]; simp [hd0, HeadP.V, headV]
  have ho2 : #[.string ⟨#[111]⟩, .int .i64 0] ++ ec = ov := by rw [hov, hec]; simp [f01, HeadP.V, headV]
  rw [hh2] at hbj
  rw [ho2] at hbo
  have HBO := Lib.hid hbo
  have HLC := Lib.hid hlc
  have HEC := Lib.hid hec
  have HEZ := Lib.hid hez
  have HHV := Lib.hid hhv
  have HOV := Lib.hid hov
  have hvl : hv.size = 34 := by rw [hhv, List.size_toArray]; exact HeadP.V_len _ (leafP_length k _)
  have HIV : Hid ((Tryz.prog.info? 36).map (·.size) = some hv.size) := Lib.hid (by rw [hvl]; exact info36)
  have HVZ : Hid (34 = hv.size) := Lib.hid hvl.symm
  have HVO : Hid (hv.all (·.oneCell') = true) := Lib.hid (by rw [hhv]; exact head_one _)
  obtain ⟨c1, hc1⟩ : ∃ x, x = ((f01 k).cells (.slice none 0 0) (.slice none 0 0)).toArray := ⟨_, rfl⟩
  obtain ⟨c2, hc2⟩ : ∃ x, x = ((f02 k).cells (.slice none 0 0) (.slice none 0 0)).toArray := ⟨_, rfl⟩
  have h1z : c1.size = 75 := by rw [hc1, List.size_toArray]; exact FactP.cells_len _ _ _ ⟨emptyP_length k, leafP_length k _⟩
  have h2z : c2.size = 75 := by rw [hc2, List.size_toArray]; exact FactP.cells_len _ _ _ ⟨rfl, leafP_length k _⟩
  have hb1 := built_f01 k
  have hb2 := built_f02 k
  rw [← hc1, ← hov, show (f01 k).head.V.toArray = hv by rw [hhv]; rfl] at hb1
  rw [← hc2, show (f02 k).head.V.toArray = hv by rw [hhv]; rfl, ← hr] at hb2
  have HB1 := Lib.hid hb1
  have HB2 := Lib.hid hb2
  have HC1 := Lib.hid hc1
  have HC2 := Lib.hid hc2
  have H1Z := Lib.hid h1z
  have H2Z := Lib.hid h2z
  have hrt := recordText_any p0 v0 t0 m0 w (by decide) (by decide) rfl rfl check0 henv
  rw [t0_lit, m0_lit, show recB p0 v0 t0 m0 = r by rw [hr]; rfl] at hrt
  have HRT := Lib.hid hrt
  have hrr : (r.toList == r.toList) = true := by simp
  clear hr hlc hec hhv hov hh2 ho2 hbo hvl hc1 hc2 h1z h2z hb1 hb2 hrt he henv hez
  go_enter Tryz.func17, Tryz.ntmps17
  go_upto_region 2 with (first
    | (go_at_call 50; refine HRT.out.mono ?_; rintro e w2 ⟨rfl, hm2⟩; have M2 := Lib.hid hm2; clear hm2))
  have hcv := Go.Lib.run_convert_string_bytes (P := Tryz.prog) w2 9 26 5 r Tryz.underlying9 Tryz.underlying26 Tryz.underlying5
  have hgc := grownCap_ge w2 r.size 0 5
  obtain ⟨W3, hW3⟩ : ∃ W3, W3 = Go.Lib.bytesWorld w2 5 r := ⟨_, rfl⟩
  obtain ⟨cap, hcap⟩ : ∃ c, c = grownCap w2 r.size 0 5 := ⟨_, rfl⟩
  obtain ⟨B, hB⟩ : ∃ B, B = w2.heap.size := ⟨_, rfl⟩
  rw [← hW3, ← hcap, ← hB] at hcv
  rw [← hcap] at hgc
  have hl : r.data.toList.length = r.size := by simp
  have hsl : SlIn W3 (.slice (some ⟨B, 0, none⟩) r.size cap) r.data.toList := .inr ⟨B, 0, cap, by rw [hl], by rw [hl]; exact hgc, fun j b hj => by
    have hjl : j < r.size := by rw [← hl]; exact (List.getElem?_eq_some_iff.1 hj).1
    have := Go.Lib.bytesWorld_cell w2 5 r j hjl
    rw [← hW3, ← hB] at this
    rw [Nat.zero_add, this, List.getD_eq_getElem?_getD, hj]
    rfl, by rw [hW3, Go.Lib.bytesWorld_size, hB]; omega⟩
  have hm3 : Mv (fun _ => False) w2 W3 := ⟨by rw [hW3]; rfl, by rw [hW3]; rfl, by rw [hW3]; rfl, by rw [hW3, Go.Lib.bytesWorld_size]; omega, fun j hj _ => by rw [hW3]; exact Go.Lib.bytesWorld_at_old w2 5 r j hj⟩
  have M3 := Lib.hid (M2.out.trans hm3)
  have HSL := Lib.hid hsl
  clear hW3 hcap hB hgc hl hsl hm3
  go_upto_region 3 with (first
    | (go_at_call 51; have hlf := leafHash_any k _ r.data.toList W3 HSL.out (by simp; omega) (HE.out.mv M3.out (fun _ h => h.elim)); rw [show hashV (leafP k r.data.toList) = .agg lc by rw [HLC.out]; rfl] at hlf; refine hlf.mono ?_; rintro e w4 ⟨rfl, hm4⟩; have M4 := Lib.hid (M3.out.trans hm4); clear hlf hm4)
    | (refine wpList_store_row rfl 36 (.tmp 5) _ rfl w4.heap.size hv rfl rfl 36 _ (heap_alloc_new _ _) HIV.out HVZ.out HVO.out ?_))
  obtain ⟨H, hH⟩ : ∃ H, H = w4.heap.size := ⟨_, rfl⟩
  have HW : Hid (∀ Z : Array Value, ((w4.alloc (.cells Z 36)).setRow w4.heap.size hv).heap[H]? = some (.cells hv 36 (0, 0)) ∧ Mv (fun _ => False) w4 ((w4.alloc (.cells Z 36)).setRow w4.heap.size hv)) := Lib.hid fun Z =>
    ⟨by rw [hH]; exact setRow_heap _ _ _ _ _ _ (heap_alloc_new _ _), ((Mv.refl _ _).alloc _).setRow (.inr (Nat.le_refl _)) _⟩
  rw [← hH]
  generalize hW : World.setRow _ _ _ = w5
  obtain ⟨x5, m5⟩ := HW.out _
  rw [← hH, hW] at x5 m5
  have X5 := Lib.hid x5
  have M5 := Lib.hid (M4.out.trans m5)
  obtain ⟨hl, hhl⟩ : ∃ x, x = (hd0 k).V := ⟨_, rfl⟩
  have HVA : Hid (hl.toArray = hv) := Lib.hid (by rw [hhl, HHV.out])
  have HIL : Hid ((Tryz.prog.info? 36).map (·.size) = some hl.length) := Lib.hid (by rw [hhl, HeadP.V_len _ (leafP_length k _)]; exact info36)
  have HRG : Hid (∀ W : World, W.heap[H]? = some (.cells hl.toArray 36 (0, 0)) → W.rangeAt H 0 hl) := Lib.hid fun W hW j v hv2 => by
    rw [cell_of_row _ _ _ _ _ _ hW, Nat.zero_add, List.getElem?_toArray]; exact hv2
  clear hW hH x5 m5 HW hhl hcv hbj
  refine wp_region_noPanic ?_
  refine wp_region_held_drew (S := (fun w' => w'.heap[H]? = some (.cells hv 36 (0, 0)))) (by kernel_rfl) (X5.out) (fun hHeld => ?_)
  refine wpAnyH_take (i := 0) (oi := _) (v := .int .i64 k) rfl (by kernel_rfl) (by kernel_rfl) (by kernel_rfl) (fun _ _ _ h => h) (Or.inl ⟨by rfl, fun _ hS => by go_simp⟩) hHeld ?_
  try simp only [Act.put, List.getElem_toArray, List.getElem_cons_succ, List.getElem_cons_zero, List.setIfInBounds_toArray, List.set_cons_zero, List.set_cons_succ]
  refine wpAnyH_take (i := 3) (oi := _) (v := .agg hv) rfl (by kernel_rfl) (by kernel_rfl) (by kernel_rfl) (fun _ _ _ h => h) (by rw [← HVA.out]; exact yieldsIf_load_mid (by rfl) 36 _ rfl H 0 rfl hl _ (fun _ h => HRG.out _ h) Tryz.underlying36 rfl HIL.out) hHeld ?_
  try simp only [Act.put, List.getElem_toArray, List.getElem_cons_succ, List.getElem_cons_zero, List.setIfInBounds_toArray, List.set_cons_zero, List.set_cons_succ]
  refine wpAnyH_take (i := 5) (oi := _) (v := .string r) rfl (by kernel_rfl) (by kernel_rfl) (by kernel_rfl) (fun _ _ _ h => h) (Or.inl ⟨by rfl, fun _ hS => by go_simp⟩) hHeld ?_
  try simp only [Act.put, List.getElem_toArray, List.getElem_cons_succ, List.getElem_cons_zero, List.setIfInBounds_toArray, List.set_cons_zero, List.set_cons_succ]
  refine wpAnyH_take (i := 6) (oi := _) (v := .agg hv) rfl (by kernel_rfl) (by kernel_rfl) (by kernel_rfl) (fun _ _ _ h => h) (by rw [← HVA.out]; exact yieldsIf_load_mid (by rfl) 36 _ rfl H 0 rfl hl _ (fun _ h => HRG.out _ h) Tryz.underlying36 rfl HIL.out) hHeld ?_
  try simp only [Act.put, List.getElem_toArray, List.getElem_cons_succ, List.getElem_cons_zero, List.setIfInBounds_toArray, List.set_cons_zero, List.set_cons_succ]
  refine wpAnyH_take (i := 7) (oi := _) (v := .agg c2) rfl (by kernel_rfl) (by kernel_rfl) (by kernel_rfl) (fun _ _ _ h => h) (yields_build (by rfl) 61 _ rfl c2 (by simp only [List.map_toArray, List.map_cons, List.map_nil]; exact HB2.out)) hHeld ?_
  try simp only [Act.put, List.getElem_toArray, List.getElem_cons_succ, List.getElem_cons_zero, List.setIfInBounds_toArray, List.set_cons_zero, List.set_cons_succ]
  refine wpAnyH_one' (i := 1) (o := _) (by kernel_rfl) rfl (fun K' hK => ?_)
  rw [if_pos (by rfl)]
  unfold Oper.wp execOp
  go_simp
  have hem := emptyHash_any k w5.drew (HE.out.mv M5.out.drew (fun _ h => h.elim))
  rw [show hashV (emptyP k) = .agg ec by rw [HEC.out]; rfl] at hem
  refine hem.mono ?_
  rintro e w6 ⟨rfl, hm6⟩
  have M6 := Lib.hid (M5.out.drew.trans hm6)
  have hs6 := (hm6.block _ (lt_of_heap hHeld) id).trans hHeld
  clear hem hm6
  refine hK.out _ _ hs6 (fun hHeld => ?_)
  clear hK K'
  try simp only [Act.put, List.getElem_toArray, List.getElem_cons_succ, List.getElem_cons_zero, List.setIfInBounds_toArray, List.set_cons_zero, List.set_cons_succ]
  clear hs6
  refine wpAnyH_take (i := 2) (oi := _) (v := .agg ov) rfl (by kernel_rfl) (by kernel_rfl) (by kernel_rfl) (fun _ _ _ h => h) (Or.inl ⟨by rfl, fun _ hS => by have := HBO.out; have := HEZ.out; go_simp⟩) hHeld ?_
  try simp only [Act.put, List.getElem_toArray, List.getElem_cons_succ, List.getElem_cons_zero, List.setIfInBounds_toArray, List.set_cons_zero, List.set_cons_succ]
  refine wpAnyH_take (i := 4) (oi := _) (v := .agg c1) rfl (by kernel_rfl) (by kernel_rfl) (by kernel_rfl) (fun _ _ _ h => h) (yields_build (by rfl) 61 _ rfl c1 (by simp only [List.map_toArray, List.map_cons, List.map_nil]; exact HB1.out)) hHeld ?_
  try simp only [Act.put, List.getElem_toArray, List.getElem_cons_succ, List.getElem_cons_zero, List.setIfInBounds_toArray, List.set_cons_zero, List.set_cons_succ]
  refine wpAnyH_one' (i := 8) (o := _) (by kernel_rfl) rfl (fun K' hK => ?_)
  rw [if_pos (by rfl)]
  refine wp_slice54two (.tmp 26) (.tmp 29) rfl c1 c2 rfl rfl H1Z.out H2Z.out ?_
  have hm7 : Mv (fun _ => False) w6 (w6.alloc (.cells (c1 ++ c2) 61)) := (Mv.refl _ _).alloc _
  have hs7 := (hm7.block _ (lt_of_heap hHeld) id).trans hHeld
  have M7 := Lib.hid (M6.out.trans hm7)
  have hb7 : (w6.alloc (.cells (c1 ++ c2) 61)).heap[w6.heap.size]? = some (.cells (c1 ++ c2) 61 (0, 0)) := heap_alloc_new _ _
  obtain ⟨B7, hB7⟩ : ∃ b, b = w6.heap.size := ⟨_, rfl⟩
  rw [← hB7] at hb7 ⊢
  generalize w6.alloc (.cells (c1 ++ c2) 61) = w7 at hs7 M7 hb7 ⊢
  have FI7 : Hid (FactsIn w7 (.slice (some ⟨B7, 0, none⟩) 2 2) [f01 k, f02 k]) := Lib.hid (facts0_in k w7 B7 (by rw [← HC1.out, ← HC2.out]; exact hb7))
  have H7 := Lib.hid hs7
  clear hm7 hB7 hb7
  refine hK.out _ _ hs7 (fun hHeld => ?_)
  clear hK K'
  try simp only [Act.put, List.getElem_toArray, List.getElem_cons_succ, List.getElem_cons_zero, List.setIfInBounds_toArray, List.set_cons_zero, List.set_cons_succ]
  clear hs7
  refine wpAnyH_one' (i := 9) (o := _) (by kernel_rfl) rfl (fun K' hK => ?_)
  rw [if_pos (by rfl)]
  unfold Oper.wp execOp
  go_simp
  refine hK.out _ _ hHeld (fun hHeld => ?_)
  clear hK K'
  try simp only [Act.put, List.getElem_toArray, List.getElem_cons_succ, List.getElem_cons_zero, List.setIfInBounds_toArray, List.set_cons_zero, List.set_cons_succ]
  clear hHeld
  refine wpAnyH_done (by kernel_rfl) ?_ _
  refine NoPanic.normal ?_
  go_upto_region 5 with (first
    | (go_at_call 21; have hfi := find_any k _ [f01 k, f02 k] p0 v0 w7 FI7.out (by simp) (fun f hf => by simp at hf; rcases hf with rfl | rfl <;> simp [f01, f02]) (HE.out.mv M7.out (fun _ h => h.elim)) (HENV.out.mv M7.out); rw [findE0] at hfi; refine hfi.mono ?_; rintro e w8 ⟨fcs, rfl, hfound, hm8⟩; have M8 := Lib.hid (M7.out.trans hm8); have FI8 := Lib.hid (FI7.out.mv hm8); have H8 := Lib.hid ((hm8.block _ (lt_of_heap H7.out) id).trans H7.out); have FZ : Hid ((Tryz.prog.info? 61).map (·.size) = some fcs.size) := Lib.hid (by rw [hfound.1]; exact info61); have FZ2 : Hid (75 = fcs.size) := Lib.hid hfound.1.symm; have FO := Lib.hid hfound.2.1; have F4 := Lib.hid (found0 k hfound); rw [← HR0.out] at F4; clear hfi hfound hm8)
    | (refine wpList_store_row rfl 61 (.tmp 7) _ rfl w8.heap.size fcs rfl rfl 61 _ (heap_alloc_new _ _) FZ.out FZ2.out FO.out ?_))
  obtain ⟨F, hF⟩ : ∃ F, F = w8.heap.size := ⟨_, rfl⟩
  have HW : Hid (∀ Z : Array Value, ((w8.alloc (.cells Z 61)).setRow w8.heap.size fcs).heap[F]? = some (.cells fcs 61 (0, 0)) ∧ Mv (fun _ => False) w8 ((w8.alloc (.cells Z 61)).setRow w8.heap.size fcs)) := Lib.hid fun Z =>
    ⟨by rw [hF]; exact setRow_heap _ _ _ _ _ _ (heap_alloc_new _ _), ((Mv.refl _ _).alloc _).setRow (.inr (Nat.le_refl _)) _⟩
  rw [← hF]
  generalize hW : World.setRow _ _ _ = w9
  obtain ⟨f9, m9⟩ := HW.out _
  rw [← hF, hW] at f9 m9
  have M9 := Lib.hid (M8.out.trans m9)
  have FI9 := Lib.hid (FI8.out.mv m9)
  have H9 := Lib.hid ((m9.block _ (lt_of_heap H8.out) id).trans H8.out)
  have F9 := Lib.hid f9
  clear hW hF f9 m9 HW
  go_upto_region 6 with (first
    | (go_at_call 20; have hfi := final_any k _ [f01 k, f02 k] w9 FI9.out (HE.out.mv M9.out (fun _ h => h.elim)) (HENV.out.mv M9.out); rw [finalE0, finalH0, ← HHV.out] at hfi; refine hfi.mono ?_; rintro e w10 ⟨rfl, hm10⟩; have M10 := Lib.hid (M9.out.trans hm10); have FI10 := Lib.hid (FI9.out.mv hm10); have H10 := Lib.hid ((hm10.block _ (lt_of_heap H9.out) id).trans H9.out); have F10 := Lib.hid ((hm10.block _ (lt_of_heap F9.out) id).trans F9.out); clear hfi hm10)
    | (refine wpList_store_row rfl 36 (.tmp 9) _ rfl w10.heap.size hv rfl rfl 36 _ (heap_alloc_new _ _) HIV.out HVZ.out HVO.out ?_))
  obtain ⟨G, hG⟩ : ∃ G, G = w10.heap.size := ⟨_, rfl⟩
  have HW : Hid (∀ Z : Array Value, ((w10.alloc (.cells Z 36)).setRow w10.heap.size hv).heap[G]? = some (.cells hv 36 (0, 0)) ∧ Mv (fun _ => False) w10 ((w10.alloc (.cells Z 36)).setRow w10.heap.size hv)) := Lib.hid fun Z =>
    ⟨by rw [hG]; exact setRow_heap _ _ _ _ _ _ (heap_alloc_new _ _), ((Mv.refl _ _).alloc _).setRow (.inr (Nat.le_refl _)) _⟩
  rw [← hG]
  generalize hW : World.setRow _ _ _ = w11
  obtain ⟨g11, m11⟩ := HW.out _
  rw [← hG, hW] at g11 m11
  have M11 := Lib.hid (M10.out.trans m11)
  have FI11 := Lib.hid (FI10.out.mv m11)
  have H11 := Lib.hid ((m11.block _ (lt_of_heap H10.out) id).trans H10.out)
  have F11 := Lib.hid ((m11.block _ (lt_of_heap F10.out) id).trans F10.out)
  have G11 := Lib.hid g11
  clear hW hG g11 m11 HW
  have heg := eqg36
  have hel := head_eql (hd0 k) (hd0 k) (leafP_length k _) (leafP_length k _)
  rw [← HHV.out, eq_self] at hel
  go_wp2_with ((go_at_call 19; have hch := check_any2 k _ [f01 k, f02 k] w11 FI11.out (HE.out.mv M11.out (fun _ h => h.elim)) (HENV.out.mv M11.out); rw [followE0] at hch; refine hch.mono ?_; rintro e w12 ⟨rfl, hm12⟩; have M12 := Lib.hid (M11.out.trans hm12); have H12 := Lib.hid ((hm12.block _ (lt_of_heap H11.out) id).trans H11.out); have G12 := Lib.hid ((hm12.block _ (lt_of_heap G11.out) id).trans G11.out); have cF : w12.cell? ⟨F, 4, none⟩ = some (.string r) := (by rw [cell_of_row _ _ _ _ _ _ ((hm12.block _ (lt_of_heap F11.out) id).trans F11.out)]; exact F4.out); clear hch hm12); go_wp2_with ((refine wpList_load_rowG 36 (.tmp 9) rfl G rfl 36 hv (0, 0) _ G12.out Tryz.underlying36 rfl HIV.out rfl ?_); go_wp2_with ((refine wpList_load_rowG 36 (.tmp 5) rfl H rfl 36 hv (0, 0) _ H12.out Tryz.underlying36 rfl HIV.out rfl ?_); go_wp2_with fail)))
  go_ret
  exact ⟨rfl, M12.out⟩
end Go.Proofs.YtdfdikpklddnhaaGreatDoor
