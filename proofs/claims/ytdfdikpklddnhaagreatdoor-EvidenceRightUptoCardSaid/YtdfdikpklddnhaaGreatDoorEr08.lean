/- (Digest).mix, at kind 256. -/
import Derived.Test.YtdfdikpklddnhaaGreatDoorEr06
import Derived.Test.YtdfdikpklddnhaaGreatDoorEr07
import Derived.Deep.RegionWith
namespace Go.Proofs.YtdfdikpklddnhaaGreatDoor
open Go.RowKit

/-- The tables that SHA-256 reads. -/
structure EnvS (w : World) : Prop where
  rounds : ∀ j, j < 64 → w.cell? ⟨3, j, none⟩ = some (u32V (kc j))
  turns : ∀ (j : Nat) v, turnsV[j]? = some v → w.cell? ⟨4, j, none⟩ = some v
theorem EnvS.mv {F : Nat → Prop} {w w' : World} (h : EnvS w) (hm : Mv F w w') (h3 : ¬ F 3) (h4 : ¬ F 4) : EnvS w' :=
  ⟨fun j hj => (Mv.cell (p := ⟨3, j, none⟩) hm (World.block_lt_of_cell? _ _ (h.rounds j hj)) h3).trans (h.rounds j hj),
    fun j v hv => (Mv.cell (p := ⟨4, j, none⟩) hm (World.block_lt_of_cell? _ _ (h.turns j v hv)) h4).trans (h.turns j v hv)⟩
/-- Bytes that lie at a place. -/
def BytesAt (w : World) (g off : Nat) (l : Bs) : Prop := ∀ (j : Nat) b, l[j]? = some b → w.cell? ⟨g, off + j, none⟩ = some (.int .u8 b.toNat)
theorem BytesAt.mv {F : Nat → Prop} {w w' : World} {g off : Nat} {l : Bs} (h : BytesAt w g off l) (hm : Mv F w w') (hg : ¬ F g) : BytesAt w' g off l := fun j b hb =>
  (Mv.cell (p := ⟨g, off + j, none⟩) hm (World.block_lt_of_cell? _ _ (h j b hb)) hg).trans (h j b hb)
set_option maxRecDepth 100000 in
set_option maxHeartbeats 1600000 in
theorem mix_any (D : Nat) (s : St8) (cnt : Int) (re : Value) (g off cap : Nat) (l : Bs) (w : World) (hl : l.length = 64)
    (hD : w.heap[D]? = some (.cells (digC cnt s re) 292 (0, 0))) (hcap : 64 ≤ cap) (hb : BytesAt w g off l) (he : EnvS w) (hD3 : 20 < D) :
    Calls Tryz.prog 178 #[.pointer (some ⟨D, 0, none⟩), .slice (some ⟨g, off, none⟩) 64 cap] w fun e w' =>
      e = .returned (.tuple #[]) ∧ w'.heap[D]? = some (.cells (digC cnt (mixB s l) re) 292 (0, 0)) ∧ Mv (fun b => b = D) w w' := by
  have HL := Lib.hid hl
  have HD := Lib.hid hD
  have HB := Lib.hid hb
  have HE := Lib.hid he
  have c0 : w.cell? ⟨D, 0, none⟩ = some (.int .i64 256) := cell_of_heap hD 0 rfl
  clear hl hD hb he
  go_enter Tryz.func178, Tryz.ntmps178
  go_wp2_with fail
  obtain ⟨W, hW⟩ : ∃ W, W = w.heap.size := ⟨_, rfl⟩
  rw [← hW]
  generalize hC0 : (#[_, _, _, _, _, _, _, _, _, _, _, _, _, _, _, _, _, _, _, _, _, _, _, _, _, _, _, _, _, _, _, _, _, _, _, _, _, _, _, _, _, _, _, _, _, _, _, _, _, _, _, _, _, _, _, _, _, _, _, _, _, _, _, _] : Array Value) = C0
  have hC0s : C0.size = 64 := by rw [← hC0]; rfl
  generalize hW1 : w.alloc _ = W1
  have hg1 : W1.heap[W]? = some (.cells C0 333 (0, 0)) := by rw [← hW1, hW]; exact heap_alloc_new _ _
  have hm1 : Mv (fun _ => False) w W1 := by rw [← hW1]; exact (Mv.refl _ _).alloc _
  have hb1 : BytesAt W1 g off l := HB.out.mv hm1 id
  have hd1 : W1.heap[D]? = some (.cells (digC cnt s re) 292 (0, 0)) := (hm1.block D (lt_of_heap HD.out) id).trans HD.out
  have he1 : EnvS W1 := HE.out.mv hm1 id id
  have hDW : D < W := by rw [hW]; exact lt_of_heap HD.out
  have hgW : g < W := by
    rw [hW]
    exact World.block_lt_of_cell? _ _ (HB.out 0 (l[0]'(by rw [HL.out]; decide)) (List.getElem?_eq_getElem _))
  have HW1 := Lib.hid hg1
  have HM1 := Lib.hid hm1
  have HB1 := Lib.hid hb1
  have HD1 := Lib.hid hd1
  have HE1 := Lib.hid he1
  have HWE := Lib.hid hW
  clear hC0 hW1 hg1 hm1 hb1 hd1 he1 hW
  refine (load_any W g off cap l C0 333 W1 HL.out HW1.out hC0s (by omega) hcap HB1.out).mono ?_
  rintro e w2 ⟨rfl, ⟨C2, h1, h2, h3⟩, h4⟩
  have HW2 := Lib.hid h1
  have HC2 := Lib.hid h2
  have HM2 := Lib.hid h3
  have hd2 : w2.heap[D]? = some (.cells (digC cnt s re) 292 (0, 0)) := (h4.block D (lt_of_heap HD1.out) (by omega)).trans HD1.out
  have he2 : EnvS w2 := HE1.out.mv h4 (by omega) (by omega)
  have HD2 := Lib.hid hd2
  have HE2 := Lib.hid he2
  have H4 := Lib.hid h4
  have k0 : w2.cell? ⟨4, 0, none⟩ = some (.int .i64 2) := he2.turns 0 _ rfl
  have k1 : w2.cell? ⟨4, 1, none⟩ = some (.int .i64 13) := he2.turns 1 _ rfl
  have k2 : w2.cell? ⟨4, 2, none⟩ = some (.int .i64 22) := he2.turns 2 _ rfl
  have k3 : w2.cell? ⟨4, 3, none⟩ = some (.int .i64 6) := he2.turns 3 _ rfl
  have k4 : w2.cell? ⟨4, 4, none⟩ = some (.int .i64 11) := he2.turns 4 _ rfl
  have k5 : w2.cell? ⟨4, 5, none⟩ = some (.int .i64 25) := he2.turns 5 _ rfl
  have k6 : w2.cell? ⟨4, 6, none⟩ = some (.int .i64 7) := he2.turns 6 _ rfl
  have k7 : w2.cell? ⟨4, 7, none⟩ = some (.int .i64 18) := he2.turns 7 _ rfl
  have k8 : w2.cell? ⟨4, 8, none⟩ = some (.int .i64 3) := he2.turns 8 _ rfl
  have k9 : w2.cell? ⟨4, 9, none⟩ = some (.int .i64 17) := he2.turns 9 _ rfl
  have k10 : w2.cell? ⟨4, 10, none⟩ = some (.int .i64 19) := he2.turns 10 _ rfl
  have k11 : w2.cell? ⟨4, 11, none⟩ = some (.int .i64 10) := he2.turns 11 _ rfl
  clear h1 h2 h3 h4 hd2 he2 c0 hC0s
  go_wp2_with fail
  have KC : Hid (Calls Tryz.prog 240 #[.pointer (some ⟨D, 2, none⟩), .slice (some ⟨W, 0, none⟩) 64 64, .slice (some ⟨3, 0, none⟩) 64 64, .agg #[.int .i64 2, .int .i64 13, .int .i64 22, .int .i64 6, .int .i64 11, .int .i64 25, .int .i64 7, .int .i64 18, .int .i64 3, .int .i64 17, .int .i64 19, .int .i64 10], .int .i64 32] w2.drew fun e w' =>
      e = .returned (.tuple #[]) ∧ w'.heap[D]? = some (.cells (digC cnt (mixB s l) re) 292 (0, 0)) ∧ Mv (fun b => b = D ∨ b = W) w2 w') := Lib.hid <|
    (compress_any D W 3 0 s (msgW l) cnt re C2 333 w2.drew HD2.out HW2.out HC2.out HM2.out (fun j hj => by rw [Nat.zero_add]; exact HE2.out.rounds j hj) (by omega) (by omega)).mono fun _ _ h =>
      ⟨h.1, h.2.1, ⟨h.2.2.os, h.2.2.tape, h.2.2.output, h.2.2.size, h.2.2.block⟩⟩
  go_region_with (go_at_call 240; go_loud (refine KC.out.mono ?_; rintro e w3 ⟨rfl, hx, hy⟩; have HX := Lib.hid hx; have HY := Lib.hid hy; clear hx hy))
  go_wp2_with fail
  refine bodyPost_ret (results_none rfl _ _ _) rfl ?_
  have hW := HWE.out
  refine ⟨rfl, HX.out, ?_⟩
  have m1 : Mv (fun b => b = D) w W1 := HM1.out.mono (fun _ _ h => h.elim)
  have m2 : Mv (fun b => b = D) w w2 := m1.trans' H4.out (fun i hi h => by omega)
  exact m2.trans' HY.out (fun i hi h => by omega)
end Go.Proofs.YtdfdikpklddnhaaGreatDoor
