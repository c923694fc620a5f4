/- New without fates. -/
import Derived.Test.YtadalodjnbnjkaaNew2
namespace Go.Proofs.Ytadalodjnbnjkaa
open Go.RowKit Go.Conc

set_option maxRecDepth 100000 in
set_option maxHeartbeats 3200000 in
theorem New_nil (w : World) (nl : Nat) (h1 : 1 ≤ nl) (h2 : nl ≤ 64) :
    Calls Try.prog 12 #[.int .i64 nl, .slice none 0 0] w (Newed w nl []) := by
  obtain ⟨i0, hi0, hz0, hz1, hz2⟩ := info_parts Try.info63
  obtain ⟨i1, hi1, hy0, hy1, hy2⟩ := info_parts Try.info83
  obtain ⟨i2, hi2, hx0, hx1, hx2⟩ := info_parts Try.info47
  have hmk : ∀ W, (Instr.makeChan 84 (.int .i64 64)).run Try.prog W = .ok (.chan (some W.heap.size)) (W.alloc (.chan 64 #[] false 0 0 false)) := fun W => run_makeChan (w := W) (P := Try.prog) Try.underlying84 hi2 .i64 64 (by decide) (by rw [hx2]; decide)
  clear hi2 hx0 hx1 hx2
  have d1 : decide ((nl : Int) < 1) = false := by simp; omega
  have d2 : decide ((nl : Int) > 64) = false := by simp; omega
  have b1 : (1 : Int) ≤ nl := by omega
  have b2 : (nl : Int) ≤ 64 := by omega
  go_enter Try.func12, Try.ntmps12
  go_wp2_with fail
  go_loopw [20] (fun i wr => i = .int .i64 0 ∧ w = wr) (fun _ _ => 0)
  case atStart => exact ⟨rfl, rfl⟩
  case round =>
      obtain ⟨rfl, rfl⟩ := hrel
      go_wp2_with (at_builtin; refine wpList_append_own_none rfl _ _ 64 rfl w.heap.size 63 i0 2 Try.underlying64 hi0 _ _ _ rfl (World.ownsRow_nil _ _ _ _) rfl ?_)
      have hS := new_start (w := w) (w1 := w) (F := []) (fv := .slice none 0 0) (Mv.refl _ _) (World.ownsRow_nil _ _ _ _)
      have HS := Lib.hid hS
      clear hS
      go_wp2_with fail
      go_loopw [33] (fun i wr => ∃ k : Nat, k ≤ nl ∧ i = .int .i64 k ∧ ∃ lv, NewRel w w.heap.size [] (.slice none 0 0) k lv wr) (fun i _ => nl - (intOf i).toNat)
      case atStart => exact ⟨0, Nat.zero_le _, rfl, _, HS.out⟩
      case round =>
        obtain ⟨k, hk, rfl, lv, hrel⟩ := hrel
        by_cases hlt : k < nl
        · obtain ⟨own, A, q1, q2, q3, q4, q5, q6, q7, q8, q9, q10⟩ := hrel
          have hkk : (k : Int) < nl := by omega
          have c0 : wr.cell? ⟨w.heap.size, 0, none⟩ = some lv := cell_of_heap q6 0 rfl
          have cf : wr.frozen? ⟨w.heap.size, 0, none⟩ = false := free_of_heap q6 0
          have hnl1 : w.heap.size < wr.heap.size := lt_of_heap q6
          have hne1 : w.heap.size ≠ wr.heap.size := by omega
          have hne2 : w.heap.size ≠ wr.heap.size + 1 := by omega
          have hne3 : w.heap.size ≠ wr.heap.size + 1 + 1 := by omega
          have hlt2 : w.heap.size < wr.heap.size + 1 := by omega
          have hlt3 : w.heap.size < wr.heap.size + 1 + 1 := by omega
          have hlt4 : w.heap.size < wr.heap.size + 1 + 1 + 1 := by omega
          have hlvn : lv.ownBlock ≠ some w.heap.size := fun e => by have := q8 _ e; rw [q5] at this; cases this
          have hbs : w.heap.size ≤ wr.heap.size := q4.size
          have Q1 := Lib.hid q1
          have Q2 := Lib.hid q2
          have Q3 := Lib.hid q3
          have Q4 := Lib.hid q4
          have Q5 := Lib.hid q5
          have Q6 := Lib.hid q6
          have Q7 := Lib.hid q7
          have Q8 := Lib.hid q8
          have Q9 := Lib.hid q9
          have Q10 := Lib.hid q10
          have hnew : ∀ o, ((((wr.alloc (.chan 64 #[] false 0 0 false)).alloc (.cells #[.chan (some wr.heap.size), .bool false, .int .i64 0] 86)).alloc o).drew).heap[wr.heap.size + 1 + 1]? = some o := fun o => by
            have e : ((wr.alloc (.chan 64 #[] false 0 0 false)).alloc (.cells #[.chan (some wr.heap.size), .bool false, .int .i64 0] 86)).heap.size = wr.heap.size + 1 + 1 := by simp
            show (((wr.alloc (.chan 64 #[] false 0 0 false)).alloc (.cells #[.chan (some wr.heap.size), .bool false, .int .i64 0] 86)).alloc o).heap[_]? = _
            rw [← e]
            exact heap_alloc_new _ o
          have hold : ∀ o b, b < wr.heap.size → ((((wr.alloc (.chan 64 #[] false 0 0 false)).alloc (.cells #[.chan (some wr.heap.size), .bool false, .int .i64 0] 86)).alloc o).drew).heap[b]? = wr.heap[b]? := fun o b hb => by
            show (((wr.alloc (.chan 64 #[] false 0 0 false)).alloc (.cells #[.chan (some wr.heap.size), .bool false, .int .i64 0] 86)).alloc o).heap[b]? = _
            rw [Below.heap_alloc _ _ _ (by simp; omega), Below.heap_alloc _ _ _ (by simp; omega), Below.heap_alloc _ _ _ hb]
          clear q1 q2 q3 q4 q5 q6 q7 q8 q9 q10
          go_wp2_with fail
          go_region_law (refine step_append_lies _ (by rfl) _ _ _ (by rfl) w.heap.size 83 i1 _ 1 8 Try.underlying79 hi1 hy0 hy1 hy2 rfl (by omega) lv k ((List.range k).map fun i => .pointer (some ⟨A.q i, 0, none⟩)) (by rfl) ((((Q7.out.alloc _).alloc _).alloc _).drew) ⟨wr.heap.size + 1 + 1, 0, none⟩ 1 1 [.pointer (some ⟨wr.heap.size + 1, 0, none⟩)] (by rfl) (by rfl) (World.news_of_block (cs := #[.pointer (some ⟨wr.heap.size + 1, 0, none⟩)]) (t := 83) (fr := (0, 0)) (hnew _)) (by simp [Value.oneCell']) (by omega) (by unfold maxLen; omega) (by omega) (by simp; omega) (wr.heap.size + 1 + 1 + 1) (by simp) ?_; intro gg cap w3 hown1 hgrow hat hlt; have hB : w3.heap[w.heap.size]? = wr.heap[w.heap.size]? := (hgrow.block _ (by simp; omega) (Ne.symm hlvn)).trans (hold _ _ hnl1); have q0 : w3.cell? ⟨w.heap.size, 0, none⟩ = some lv := (World.cell?_of_block (w := wr) hB).trans c0; have qf : w3.frozen? ⟨w.heap.size, 0, none⟩ = false := (World.frozen?_of_block (w := wr) hB).trans cf; have HB := Lib.hid hB; clear hB)
          all_goals
            have hR := new_close Q1.out Q2.out Q3.out Q4.out Q5.out Q6.out Q8.out Q7.out Q9.out Q10.out hgrow hown1 hat
            have HR := Lib.hid hR
            clear hgrow hown1 hat hR
            go_wp2
            go_roundw
            case rel => exact ⟨k + 1, by omega, by go_num, _, HR.out⟩
            case measure => simp [intOf]; omega
        · have hge2 : (nl : Int) ≤ k := by omega
          have HR := Lib.hid hrel
          clear hrel
          go_wp2
          go_ret2
          obtain rfl : k = nl := by omega
          exact new_end HR.out (by omega)
end Go.Proofs.Ytadalodjnbnjkaa
