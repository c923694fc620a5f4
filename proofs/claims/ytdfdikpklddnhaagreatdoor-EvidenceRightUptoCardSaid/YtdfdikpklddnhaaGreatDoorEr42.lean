/- modver.Sum and Record of a good key (the latter printed by gen/genrecord.py). -/
import Derived.Test.YtdfdikpklddnhaaGreatDoorEr41
import Derived.Test.YtdfdikpklddnhaaGreatDoorEr28
namespace Go.Proofs.YtdfdikpklddnhaaGreatDoor
open Go.RowKit
set_option linter.unusedSimpArgs false
theorem bytes_app (a b : Array UInt8) : (⟨a⟩ : ByteArray) ++ ⟨b⟩ = ⟨a ++ b⟩ := by
  apply ByteArray.ext
  exact ByteArray.data_append
theorem enc64_len32 (l : Bs) (hl : l.length = 32) : (enc64 l).length = 44 := by
  have h := enc64_app 10 (l.take 30) (l.drop 30) (by rw [List.length_take]; omega)
  rw [List.take_append_drop] at h
  rw [h, List.length_append, enc64_len 10 _ (by rw [List.length_take]; omega)]
  have hd : (l.drop 30).length = 2 := by rw [List.length_drop]; omega
  generalize l.drop 30 = z at hd
  match z, hd with
  | [_, _], _ => rfl
set_option maxRecDepth 100000 in
set_option maxHeartbeats 1600000 in
theorem sumText_any (l : Bs) (w : World) (hl : l.length = 32) :
    Calls Tryz.prog 84 #[.agg (l.map byteV).toArray] w fun e w' => e = .returned (.string ⟨([104, 49, 58] ++ enc64 l).toArray⟩) ∧ Mv (fun _ => False) w w' := by
  obtain ⟨cs, hcs⟩ : ∃ cs, cs = (l.map byteV).toArray := ⟨_, rfl⟩
  rw [← hcs]
  have hsz : cs.size = 32 := by rw [hcs]; simp [hl]
  obtain ⟨W1, hW1⟩ : ∃ W1, W1 = w.alloc (.cells cs 27) := ⟨_, rfl⟩
  have hb : BytesAt W1 w.heap.size 0 l := fun j b hj => by
    rw [hW1, Nat.zero_add, cell_of_row _ _ _ _ _ _ (heap_alloc_new _ _), hcs]
    simp [hj, byteV]
  have HB := Lib.hid hb
  have HW1 := Lib.hid hW1
  have HM : Hid (Mv (fun _ => False) w W1) := Lib.hid (by rw [hW1]; exact (Mv.refl _ _).alloc _)
  have HG : Hid (w.heap.size < W1.heap.size) := Lib.hid (by rw [hW1]; simp)
  have HL := Lib.hid hl
  have h44 := enc64_len32 l hl
  have HCS := Lib.hid hcs
  clear hb hW1 hcs hl
  go_enter Tryz.func84, Tryz.ntmps84
  go_wp2_with fail
  rw [← HW1.out]
  refine (enc_any w.heap.size l W1 HL.out HB.out HG.out).mono ?_
  rintro e w2 ⟨rfl, hm2⟩
  have HM2 := Lib.hid (HM.out.trans hm2)
  clear hm2
  go_wp2_with fail
  go_ret
  refine ⟨?_, HM2.out⟩
  show Ending.returned (Value.string ((⟨#[104, 49, 58]⟩ : ByteArray) ++ ⟨(enc64 l).toArray⟩)) = _
  rw [bytes_app]
  simp
theorem range_27 {W : World} {g : Nat} {cs : List Value} (h : W.heap[g]? = some (.cells cs.toArray 27 (0, 0))) : W.rangeAt g 0 cs := fun j v hv => by
  rw [cell_of_row _ _ _ _ _ _ h]
  simpa using hv
theorem info27s : (Tryz.prog.info? 27).map (·.size) = some 32 := by kernel_rfl
/-- What Record answers for a good key. -/
def recB (p v : ByteArray) (t m : Bs) : ByteArray :=
  p ++ ⟨#[32]⟩ ++ v ++ ⟨#[32]⟩ ++ ⟨([104, 49, 58] ++ enc64 t).toArray⟩ ++ ⟨#[10]⟩ ++ p ++ ⟨#[32]⟩ ++ v ++ ⟨#[47, 103, 111, 46, 109, 111, 100]⟩ ++ ⟨#[32]⟩ ++ ⟨([104, 49, 58] ++ enc64 m).toArray⟩ ++ ⟨#[10]⟩
set_option maxRecDepth 100000 in
set_option maxHeartbeats 1600000 in
theorem recordText_any (p v : ByteArray) (t m : Bs) (w : World) (hp : p.size ≤ 1048576) (hv : v.size ≤ 1048576) (ht : t.length = 32) (hm : m.length = 32) (hck : checkP p.data.toList v.data.toList = 0) (henv : EnvP w) :
    Calls Tryz.prog 50 #[.string p, .string v, .agg (t.map byteV).toArray, .agg (m.map byteV).toArray] w fun e w' => e = .returned (.tuple #[.string (recB p v t m), .int .i64 0]) ∧ Mv (fun _ => False) w w' := by
  unfold recB
  obtain ⟨ct, hct⟩ : ∃ c, c = t.map byteV := ⟨_, rfl⟩
  obtain ⟨cm, hcm⟩ : ∃ c, c = m.map byteV := ⟨_, rfl⟩
  rw [← hct, ← hcm]
  have Hct := Lib.hid hct
  have Hcm := Lib.hid hcm
  have HIT : Hid ((Tryz.prog.info? 27).map (·.size) = some ct.length) := Lib.hid (by rw [hct, List.length_map, ht]; exact info27s)
  have HIM : Hid ((Tryz.prog.info? 27).map (·.size) = some cm.length) := Lib.hid (by rw [hcm, List.length_map, hm]; exact info27s)
  have HT := Lib.hid ht
  have h44t := enc64_len32 t ht
  have h44m := enc64_len32 m hm
  have HMM := Lib.hid hm
  obtain ⟨A, hA⟩ : ∃ A, A = w.heap.size := ⟨_, rfl⟩
  obtain ⟨B, hB⟩ : ∃ B, B = A + 1 := ⟨_, rfl⟩
  have h1 : ((w.alloc (.cells ct.toArray 27)).alloc (.cells cm.toArray 27)).heap[A]? = some (.cells ct.toArray 27 (0, 0)) := by rw [hA]; exact (Below.heap_alloc _ _ _ (by simp)).trans (heap_alloc_new _ _)
  have h2 : ((w.alloc (.cells ct.toArray 27)).alloc (.cells cm.toArray 27)).heap[B]? = some (.cells cm.toArray 27 (0, 0)) := by
    rw [hB, hA, show w.heap.size + 1 = (w.alloc (.cells ct.toArray 27)).heap.size by simp]; exact heap_alloc_new _ _
  have hma : Mv (fun _ => False) w ((w.alloc (.cells ct.toArray 27)).alloc (.cells cm.toArray 27)) := ((Mv.refl _ _).alloc _).alloc _
  have HA := Lib.hid hA
  have HB := Lib.hid hB
  have HEE := Lib.hid henv
  have HCK := Lib.hid hck
  clear hct hcm ht hm henv hck
  go_enter Tryz.func50, Tryz.ntmps50
  go_upto_region 1 with fail
  rw [← hA] at *
  rw [← hB] at *
  generalize hW1 : (w.alloc (.cells ct.toArray 27)).alloc (.cells cm.toArray 27) = W1
  rw [hW1] at h1 h2 hma
  have H1 := Lib.hid h1
  have H2 := Lib.hid h2
  have HM1 := Lib.hid hma
  have HE1 : Hid (EnvP W1) := Lib.hid (HEE.out.still hma.below)
  clear h1 h2 hma hW1 hA hB
  go_wp2_with fail
  have hcl := check_any p v W1 hp hv HE1.out
  rw [HCK.out] at hcl
  refine hcl.mono ?_
  rintro e W2 ⟨rfl, hb2⟩
  have hm2 := Mv.of_below hb2
  have HM2 := Lib.hid (HM1.out.trans hm2)
  have H12 : Hid (W2.heap[A]? = some (.cells ct.toArray 27 (0, 0))) := Lib.hid ((hm2.block A (lt_of_heap H1.out) id).trans H1.out)
  have H22 : Hid (W2.heap[B]? = some (.cells cm.toArray 27 (0, 0))) := Lib.hid ((hm2.block B (lt_of_heap H2.out) id).trans H2.out)
  clear hcl hb2 hm2
  go_upto_region 4 with fail
  refine wp_region_noPanic ?_
  refine wp_region_held_drew (S := fun w' => w'.heap[A]? = some (.cells ct.toArray 27 (0, 0)) ∧ w'.heap[B]? = some (.cells cm.toArray 27 (0, 0))) (by kernel_rfl) ⟨H12.out, H22.out⟩ (fun hHeld => ?_)
  refine wpAnyH_take (i := 0) (oi := _) (v := .string p) rfl (by kernel_rfl) (by kernel_rfl) (by kernel_rfl) (fun _ _ _ h => h) (Or.inl ⟨by rfl, fun _ hS => by go_simp <;> omega⟩) hHeld ?_
  try simp only [Act.put, List.getElem_toArray, List.getElem_cons_succ, List.getElem_cons_zero, List.setIfInBounds_toArray, List.set_cons_zero, List.set_cons_succ]
  refine wpAnyH_take (i := 1) (oi := _) (v := .string (p ++ ⟨#[32]⟩)) rfl (by kernel_rfl) (by kernel_rfl) (by kernel_rfl) (fun _ _ _ h => h) (Or.inl ⟨by rfl, fun _ hS => by go_simp <;> omega⟩) hHeld ?_
  try simp only [Act.put, List.getElem_toArray, List.getElem_cons_succ, List.getElem_cons_zero, List.setIfInBounds_toArray, List.set_cons_zero, List.set_cons_succ]
  refine wpAnyH_take (i := 2) (oi := _) (v := .string v) rfl (by kernel_rfl) (by kernel_rfl) (by kernel_rfl) (fun _ _ _ h => h) (Or.inl ⟨by rfl, fun _ hS => by go_simp <;> omega⟩) hHeld ?_
  try simp only [Act.put, List.getElem_toArray, List.getElem_cons_succ, List.getElem_cons_zero, List.setIfInBounds_toArray, List.set_cons_zero, List.set_cons_succ]
  refine wpAnyH_take (i := 3) (oi := _) (v := .string (p ++ ⟨#[32]⟩ ++ v)) rfl (by kernel_rfl) (by kernel_rfl) (by kernel_rfl) (fun _ _ _ h => h) (Or.inl ⟨by rfl, fun _ hS => by go_simp <;> omega⟩) hHeld ?_
  try simp only [Act.put, List.getElem_toArray, List.getElem_cons_succ, List.getElem_cons_zero, List.setIfInBounds_toArray, List.set_cons_zero, List.set_cons_succ]
  refine wpAnyH_take (i := 4) (oi := _) (v := .string (p ++ ⟨#[32]⟩ ++ v ++ ⟨#[32]⟩)) rfl (by kernel_rfl) (by kernel_rfl) (by kernel_rfl) (fun _ _ _ h => h) (Or.inl ⟨by rfl, fun _ hS => by go_simp <;> omega⟩) hHeld ?_
  try simp only [Act.put, List.getElem_toArray, List.getElem_cons_succ, List.getElem_cons_zero, List.setIfInBounds_toArray, List.set_cons_zero, List.set_cons_succ]
  refine wpAnyH_take (i := 5) (oi := _) (v := .agg ct.toArray) rfl (by kernel_rfl) (by kernel_rfl) (by kernel_rfl) (fun _ _ _ h => h) (yieldsIf_load_mid (by rfl) 27 _ rfl A 0 rfl ct _ (fun _ h => range_27 h.1) Tryz.underlying27 rfl HIT.out) hHeld ?_
  try simp only [Act.put, List.getElem_toArray, List.getElem_cons_succ, List.getElem_cons_zero, List.setIfInBounds_toArray, List.set_cons_zero, List.set_cons_succ]
  refine wpAnyH_take (i := 9) (oi := _) (v := .string p) rfl (by kernel_rfl) (by kernel_rfl) (by kernel_rfl) (fun _ _ _ h => h) (Or.inl ⟨by rfl, fun _ hS => by go_simp <;> omega⟩) hHeld ?_
  try simp only [Act.put, List.getElem_toArray, List.getElem_cons_succ, List.getElem_cons_zero, List.setIfInBounds_toArray, List.set_cons_zero, List.set_cons_succ]
  refine wpAnyH_take (i := 12) (oi := _) (v := .string v) rfl (by kernel_rfl) (by kernel_rfl) (by kernel_rfl) (fun _ _ _ h => h) (Or.inl ⟨by rfl, fun _ hS => by go_simp <;> omega⟩) hHeld ?_
  try simp only [Act.put, List.getElem_toArray, List.getElem_cons_succ, List.getElem_cons_zero, List.setIfInBounds_toArray, List.set_cons_zero, List.set_cons_succ]
  refine wpAnyH_take (i := 16) (oi := _) (v := .agg cm.toArray) rfl (by kernel_rfl) (by kernel_rfl) (by kernel_rfl) (fun _ _ _ h => h) (yieldsIf_load_mid (by rfl) 27 _ rfl B 0 rfl cm _ (fun _ h => range_27 h.2) Tryz.underlying27 rfl HIM.out) hHeld ?_
  try simp only [Act.put, List.getElem_toArray, List.getElem_cons_succ, List.getElem_cons_zero, List.setIfInBounds_toArray, List.set_cons_zero, List.set_cons_succ]
  refine wpAnyH_one' (i := 6) (o := _) (by kernel_rfl) rfl (fun K' hK => ?_)
  rw [if_pos (by rfl)]
  unfold Oper.wp execOp
  go_simp
  have hcl := sumText_any t W2.drew HT.out
  rw [show (t.map byteV).toArray = ct.toArray by rw [Hct.out]] at hcl
  refine hcl.mono ?_
  rintro e W3 ⟨rfl, hm2⟩
  have HM3 : Hid (Mv (fun _ => False) w W3) := Lib.hid (HM2.out.trans ((Mv.refl (fun _ => False) W2).drew.trans hm2))
  have hs2 : W3.heap[A]? = some (.cells ct.toArray 27 (0, 0)) ∧ W3.heap[B]? = some (.cells cm.toArray 27 (0, 0)) := ⟨(hm2.block A (lt_of_heap hHeld.1) id).trans hHeld.1, (hm2.block B (lt_of_heap hHeld.2) id).trans hHeld.2⟩
  clear hm2 hcl
  refine hK.out _ _ hs2 (fun hHeld => ?_)
  clear hK K' hs2
  try simp only [Act.put, List.getElem_toArray, List.getElem_cons_succ, List.getElem_cons_zero, List.setIfInBounds_toArray, List.set_cons_zero, List.set_cons_succ]
  refine wpAnyH_take (i := 7) (oi := _) (v := .string (p ++ ⟨#[32]⟩ ++ v ++ ⟨#[32]⟩ ++ ⟨([104, 49, 58] ++ enc64 t).toArray⟩)) rfl (by kernel_rfl) (by kernel_rfl) (by kernel_rfl) (fun _ _ _ h => h) (Or.inl ⟨by rfl, fun _ hS => by go_simp <;> omega⟩) hHeld ?_
  try simp only [Act.put, List.getElem_toArray, List.getElem_cons_succ, List.getElem_cons_zero, List.setIfInBounds_toArray, List.set_cons_zero, List.set_cons_succ]
  refine wpAnyH_take (i := 8) (oi := _) (v := .string (p ++ ⟨#[32]⟩ ++ v ++ ⟨#[32]⟩ ++ ⟨([104, 49, 58] ++ enc64 t).toArray⟩ ++ ⟨#[10]⟩)) rfl (by kernel_rfl) (by kernel_rfl) (by kernel_rfl) (fun _ _ _ h => h) (Or.inl ⟨by rfl, fun _ hS => by go_simp <;> omega⟩) hHeld ?_
  try simp only [Act.put, List.getElem_toArray, List.getElem_cons_succ, List.getElem_cons_zero, List.setIfInBounds_toArray, List.set_cons_zero, List.set_cons_succ]
  refine wpAnyH_take (i := 10) (oi := _) (v := .string (p ++ ⟨#[32]⟩ ++ v ++ ⟨#[32]⟩ ++ ⟨([104, 49, 58] ++ enc64 t).toArray⟩ ++ ⟨#[10]⟩ ++ p)) rfl (by kernel_rfl) (by kernel_rfl) (by kernel_rfl) (fun _ _ _ h => h) (Or.inl ⟨by rfl, fun _ hS => by go_simp <;> omega⟩) hHeld ?_
  try simp only [Act.put, List.getElem_toArray, List.getElem_cons_succ, List.getElem_cons_zero, List.setIfInBounds_toArray, List.set_cons_zero, List.set_cons_succ]
  refine wpAnyH_take (i := 11) (oi := _) (v := .string (p ++ ⟨#[32]⟩ ++ v ++ ⟨#[32]⟩ ++ ⟨([104, 49, 58] ++ enc64 t).toArray⟩ ++ ⟨#[10]⟩ ++ p ++ ⟨#[32]⟩)) rfl (by kernel_rfl) (by kernel_rfl) (by kernel_rfl) (fun _ _ _ h => h) (Or.inl ⟨by rfl, fun _ hS => by go_simp <;> omega⟩) hHeld ?_
  try simp only [Act.put, List.getElem_toArray, List.getElem_cons_succ, List.getElem_cons_zero, List.setIfInBounds_toArray, List.set_cons_zero, List.set_cons_succ]
  refine wpAnyH_take (i := 13) (oi := _) (v := .string (p ++ ⟨#[32]⟩ ++ v ++ ⟨#[32]⟩ ++ ⟨([104, 49, 58] ++ enc64 t).toArray⟩ ++ ⟨#[10]⟩ ++ p ++ ⟨#[32]⟩ ++ v)) rfl (by kernel_rfl) (by kernel_rfl) (by kernel_rfl) (fun _ _ _ h => h) (Or.inl ⟨by rfl, fun _ hS => by go_simp <;> omega⟩) hHeld ?_
  try simp only [Act.put, List.getElem_toArray, List.getElem_cons_succ, List.getElem_cons_zero, List.setIfInBounds_toArray, List.set_cons_zero, List.set_cons_succ]
  refine wpAnyH_take (i := 14) (oi := _) (v := .string (p ++ ⟨#[32]⟩ ++ v ++ ⟨#[32]⟩ ++ ⟨([104, 49, 58] ++ enc64 t).toArray⟩ ++ ⟨#[10]⟩ ++ p ++ ⟨#[32]⟩ ++ v ++ ⟨#[47, 103, 111, 46, 109, 111, 100]⟩)) rfl (by kernel_rfl) (by kernel_rfl) (by kernel_rfl) (fun _ _ _ h => h) (Or.inl ⟨by rfl, fun _ hS => by go_simp <;> omega⟩) hHeld ?_
  try simp only [Act.put, List.getElem_toArray, List.getElem_cons_succ, List.getElem_cons_zero, List.setIfInBounds_toArray, List.set_cons_zero, List.set_cons_succ]
  refine wpAnyH_take (i := 15) (oi := _) (v := .string (p ++ ⟨#[32]⟩ ++ v ++ ⟨#[32]⟩ ++ ⟨([104, 49, 58] ++ enc64 t).toArray⟩ ++ ⟨#[10]⟩ ++ p ++ ⟨#[32]⟩ ++ v ++ ⟨#[47, 103, 111, 46, 109, 111, 100]⟩ ++ ⟨#[32]⟩)) rfl (by kernel_rfl) (by kernel_rfl) (by kernel_rfl) (fun _ _ _ h => h) (Or.inl ⟨by rfl, fun _ hS => by go_simp <;> omega⟩) hHeld ?_
  try simp only [Act.put, List.getElem_toArray, List.getElem_cons_succ, List.getElem_cons_zero, List.setIfInBounds_toArray, List.set_cons_zero, List.set_cons_succ]
  refine wpAnyH_one' (i := 17) (o := _) (by kernel_rfl) rfl (fun K' hK => ?_)
  rw [if_pos (by rfl)]
  unfold Oper.wp execOp
  go_simp
  have hcl := sumText_any m W3 HMM.out
  rw [show (m.map byteV).toArray = cm.toArray by rw [Hcm.out]] at hcl
  refine hcl.mono ?_
  rintro e W4 ⟨rfl, hm2⟩
  have HM4 : Hid (Mv (fun _ => False) w W4) := Lib.hid (HM3.out.trans hm2)
  have hs2 : W4.heap[A]? = some (.cells ct.toArray 27 (0, 0)) ∧ W4.heap[B]? = some (.cells cm.toArray 27 (0, 0)) := ⟨(hm2.block A (lt_of_heap hHeld.1) id).trans hHeld.1, (hm2.block B (lt_of_heap hHeld.2) id).trans hHeld.2⟩
  clear hm2 hcl
  refine hK.out _ _ hs2 (fun hHeld => ?_)
  clear hK K' hs2
  try simp only [Act.put, List.getElem_toArray, List.getElem_cons_succ, List.getElem_cons_zero, List.setIfInBounds_toArray, List.set_cons_zero, List.set_cons_succ]
  refine wpAnyH_take (i := 18) (oi := _) (v := .string (p ++ ⟨#[32]⟩ ++ v ++ ⟨#[32]⟩ ++ ⟨([104, 49, 58] ++ enc64 t).toArray⟩ ++ ⟨#[10]⟩ ++ p ++ ⟨#[32]⟩ ++ v ++ ⟨#[47, 103, 111, 46, 109, 111, 100]⟩ ++ ⟨#[32]⟩ ++ ⟨([104, 49, 58] ++ enc64 m).toArray⟩)) rfl (by kernel_rfl) (by kernel_rfl) (by kernel_rfl) (fun _ _ _ h => h) (Or.inl ⟨by rfl, fun _ hS => by go_simp <;> omega⟩) hHeld ?_
  try simp only [Act.put, List.getElem_toArray, List.getElem_cons_succ, List.getElem_cons_zero, List.setIfInBounds_toArray, List.set_cons_zero, List.set_cons_succ]
  refine wpAnyH_take (i := 19) (oi := _) (v := .string (p ++ ⟨#[32]⟩ ++ v ++ ⟨#[32]⟩ ++ ⟨([104, 49, 58] ++ enc64 t).toArray⟩ ++ ⟨#[10]⟩ ++ p ++ ⟨#[32]⟩ ++ v ++ ⟨#[47, 103, 111, 46, 109, 111, 100]⟩ ++ ⟨#[32]⟩ ++ ⟨([104, 49, 58] ++ enc64 m).toArray⟩ ++ ⟨#[10]⟩)) rfl (by kernel_rfl) (by kernel_rfl) (by kernel_rfl) (fun _ _ _ h => h) (Or.inl ⟨by rfl, fun _ hS => by go_simp <;> omega⟩) hHeld ?_
  try simp only [Act.put, List.getElem_toArray, List.getElem_cons_succ, List.getElem_cons_zero, List.setIfInBounds_toArray, List.set_cons_zero, List.set_cons_succ]
  refine wpAnyH_one' (i := 20) (o := _) (by kernel_rfl) rfl (fun K' hK => ?_)
  rw [if_pos (by rfl)]
  unfold Oper.wp execOp
  go_simp
  refine hK.out _ _ hHeld (fun hHeld => ?_)
  clear hK K'
  try simp only [Act.put, List.getElem_toArray, List.getElem_cons_succ, List.getElem_cons_zero, List.setIfInBounds_toArray, List.set_cons_zero, List.set_cons_succ]
  refine wpAnyH_one' (i := 21) (o := _) (by kernel_rfl) rfl (fun K' hK => ?_)
  rw [if_pos (by rfl)]
  unfold Oper.wp execOp
  go_simp
  refine hK.out _ _ hHeld (fun hHeld => ?_)
  clear hK K'
  try simp only [Act.put, List.getElem_toArray, List.getElem_cons_succ, List.getElem_cons_zero, List.setIfInBounds_toArray, List.set_cons_zero, List.set_cons_succ]
  refine wpAnyH_done (by kernel_rfl) ?_ _
  refine NoPanic.normal ?_
  go_wp2_with fail
  go_ret2
  exact ⟨rfl, HM4.out⟩
end Go.Proofs.YtdfdikpklddnhaaGreatDoor
