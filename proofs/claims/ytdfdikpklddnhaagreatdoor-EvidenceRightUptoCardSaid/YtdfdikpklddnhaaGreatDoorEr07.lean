/- sha.load. -/
import Derived.Test.YtdfdikpklddnhaaGreatDoorEr02
import Derived.Test.YtdfdikpklddnhaaGreatDoorEr03
import Derived.Test.YtdfdikpklddnhaaGreatDoorProg
import Derived.RegionTactic
import Derived.IntWalk
namespace Go.Proofs.YtdfdikpklddnhaaGreatDoor
open Go.RowKit

/-- The first k bytes of word i. -/
def preW (l : Bs) (i k : Nat) : Nat := ((l.drop (4 * i)).take k).foldl (fun a b => a * 256 + b.toNat) 0
theorem preW_succ (l : Bs) (i k : Nat) (b : UInt8) (h : l[4 * i + k]? = some b) : preW l i (k + 1) = preW l i k * 256 + b.toNat := by
  unfold preW
  rw [List.take_add_one, List.getElem?_drop, h]
  simp [List.foldl_append]
theorem preW_lt (l : Bs) (i : Nat) : ∀ k, preW l i k < 256 ^ k
  | 0 => by unfold preW; rw [List.take_zero]; decide
  | k + 1 => by
    have ih := preW_lt l i k
    cases h : l[4 * i + k]? with
    | some b =>
      have hb := b.toNat_lt
      rw [preW_succ l i k b h, Nat.pow_succ]; omega
    | none =>
      have e : preW l i (k + 1) = preW l i k := by
        unfold preW
        rw [List.take_add_one, List.getElem?_drop, h]
        simp
      rw [e, Nat.pow_succ]; omega
theorem preW_four (l : Bs) (i : Nat) (h : 4 * i + 3 < l.length) : UInt32.ofNat (preW l i 4) = msgW l i := by
  have hg : ∀ j, j < l.length → l[j]? = some (l.getD j 0) := fun j hj => by simp [hj]
  rw [preW_succ l i 3 _ (hg _ h), preW_succ l i 2 _ (hg _ (by omega)), preW_succ l i 1 _ (hg _ (by omega)), preW_succ l i 0 _ (hg _ (by omega))]
  have e : preW l i 0 = 0 := rfl
  rw [e]
  unfold msgW word4
  simp
theorem getD_some (C : Array Value) (n : Nat) (h : n < C.size) : C[n]? = some (C.getD n undef) := by
  rw [Array.getD_eq_getD_getElem?, Array.getElem?_eq_getElem h]; rfl
theorem or_step (X b : Nat) (hX : X < 16777216) (hb : b < 256) : Go.bits .or .u32 ((X : Int) * 256) (b : Int) = ((X * 256 + b : Nat) : Int) := by
  have h := u32_or_nat (X * 256) b (by omega) (by omega)
  rw [show ((X : Int) * 256) = ((X * 256 : Nat) : Int) by omega, h, nat_join 8 (X * 256) b (by omega) (by omega)]
set_option maxRecDepth 100000 in
set_option maxHeartbeats 1600000 in
theorem load_any (wb : Nat) (g off cap : Nat) (l : Bs) (C : Array Value) (TW : TypeId) (w : World) (hl : l.length = 64)
    (hW : w.heap[wb]? = some (.cells C TW (0, 0))) (hC : C.size = 64) (hg : g ≠ wb) (hcap : 64 ≤ cap)
    (hb : ∀ (j : Nat) b, l[j]? = some b → w.cell? ⟨g, off + j, none⟩ = some (.int .u8 b.toNat)) :
    Calls Tryz.prog 239 #[.slice (some ⟨wb, 0, none⟩) 16 64, .slice (some ⟨g, off, none⟩) 64 cap, .int .i64 4] w fun e w' =>
      e = .returned (.tuple #[]) ∧ (∃ C', w'.heap[wb]? = some (.cells C' TW (0, 0)) ∧ C'.size = 64 ∧ ∀ j, j < 16 → C'[j]? = some (u32V (msgW l j))) ∧ Mv (fun b => b = wb) w w' := by
  have HL := Lib.hid hl
  have HW := Lib.hid hW
  have HC := Lib.hid hC
  have HB := Lib.hid hb
  clear hl hW hC hb
  go_enter Tryz.func239, Tryz.ntmps239
  go_wp2_with fail
  go_loopw [12] (fun i wr => ∃ n : Nat, ∃ C : Array Value, n ≤ 16 ∧ i = .int .i64 n ∧ wr.heap[wb]? = some (.cells C TW (0,0)) ∧ C.size = 64 ∧ (∀ j, j < n → C[j]? = some (u32V (msgW l j))) ∧ Mv (fun b => b = wb) w wr) (fun i _ => 16 - (intOf i).toNat)
  case atStart => exact ⟨0, C, by omega, rfl, HW.out, HC.out, fun j hj => by omega, Mv.refl _ _⟩
  case round =>
    obtain ⟨n, C1, hn, rfl, h1, h2, h3, h4⟩ := hrel
    have H1 := Lib.hid h1
    have H2 := Lib.hid h2
    have H3 := Lib.hid h3
    have H4 := Lib.hid h4
    clear h1 h2 h3 h4
    by_cases hlt : n < 16
    · obtain ⟨wo, rfl⟩ : ∃ wo : World, wo = wr := ⟨_, rfl⟩
      have e4 : (n + 1) * 4 - n * 4 = 4 := by omega
      go_wp2_with fail
      go_loop [25, 7] (fun i x => ∃ k : Nat, ∃ X : Nat, k ≤ 4 ∧ i = .int .i64 k ∧ X = preW l n k ∧ x = .int .u32 X) (fun i _ => 4 - (intOf i).toNat)
      case atStart => exact ⟨0, 0, by omega, rfl, rfl, rfl⟩
      case round =>
        obtain ⟨k, X, hk, rfl, hX, rfl⟩ := hrel
        have HX := Lib.hid hX
        have hlt0 := preW_lt l n k
        rw [← hX] at hlt0
        clear hX
        by_cases hk4 : k < 4
        · have hX24 : X < 16777216 := Nat.lt_of_lt_of_le hlt0 (by
            have : (256 : Nat) ^ k ≤ 256 ^ 3 := Nat.pow_le_pow_right (by decide) (by omega)
            omega)
          obtain ⟨b, hb⟩ : ∃ b, l[4 * n + k]? = some b := ⟨l[4 * n + k]'(by rw [HL.out]; omega), List.getElem?_eq_getElem _⟩
          have hc := HB.out _ b hb
          rw [← Mv.cell (p := ⟨g, off + (4 * n + k), none⟩) H4.out (World.block_lt_of_cell? _ _ hc) hg] at hc
          have hc' : wo.cell? ⟨g, off + n * 4 + k, none⟩ = some (.int .u8 b.toNat) := by rw [show off + n * 4 + k = off + (4 * n + k) by omega]; exact hc
          have hps := preW_succ l n k b hb
          rw [← HX.out] at hps
          have HPS := Lib.hid hps
          have hb256 := b.toNat_lt
          have hor := or_step X b.toNat hX24 (by omega)
          clear hb hc hps hlt0
          go_wp2_with fail
          go_round
          case rel => exact ⟨k + 1, X * 256 + b.toNat, by omega, by go_num, HPS.out.symm, by go_num⟩
          case measure => simp [intOf]; omega
        · have h4 : k = 4 := by omega
          subst h4
          have hpf := preW_four l n (by rw [HL.out]; omega)
          rw [← HX.out] at hpf
          have HPF := Lib.hid hpf
          have hX32 : X < 4294967296 := hlt0
          have cf := free_of_heap H1.out n
          have cw : wo.cell? ⟨wb, n, none⟩ = some (C1.getD n undef) := cell_of_heap H1.out _ (getD_some _ _ (by rw [H2.out]; omega))
          clear hpf hlt0
          go_wp2_with fail
          go_roundw
          case rel =>
            have hv : Value.int .u32 X = u32V (msgW l n) := by
              rw [← HPF.out]; unfold u32V
              rw [UInt32.toNat_ofNat', Nat.mod_eq_of_lt hX32]
            rw [hv]
            refine ⟨n + 1, C1.setIfInBounds n (u32V (msgW l n)), by omega, by go_num, heap_setCell_same H1.out _, by simp [H2.out], fun j hj => ?_, H4.out.setCell (.inl rfl) _⟩
            rw [Array.getElem?_setIfInBounds]
            by_cases hjn : n = j
            · subst hjn; simp [H2.out]; omega
            · rw [if_neg hjn]; exact H3.out j (by omega)
          case measure => simp [intOf]; omega
    · have h16 : n = 16 := by omega
      subst h16
      go_wp2_with fail
      go_end0
      exact ⟨rfl, ⟨C1, H1.out, H2.out, H3.out⟩, H4.out⟩
end Go.Proofs.YtdfdikpklddnhaaGreatDoor
