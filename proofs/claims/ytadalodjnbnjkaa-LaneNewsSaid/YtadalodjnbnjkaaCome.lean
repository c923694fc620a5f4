/- (*queue).come: the message is cloned; it joins what waits on the lane, if there is room. -/
import Derived.Test.YtadalodjnbnjkaaMem
namespace Go.Proofs.Ytadalodjnbnjkaa
open Go.RowKit Go.Conc

/-- What come leaves: the channel has one message more, or is full and as it was. -/
def Came (w : World) (c : Nat) (vs : Array Value) (s r : Nat) (l : List Int) (e : Ending) (w' : World) : Prop :=
  e = .returned (.tuple #[]) ∧ Mv (· = c) w w' ∧
    ((vs.size < 64 ∧ ∃ v g, MsgAt w' g v l ∧ w.heap.size ≤ g ∧ w'.heap[c]? = some (.chan 64 (vs.push v) false (s + 1) r false)) ∨
     (64 ≤ vs.size ∧ w'.heap[c]? = some (.chan 64 vs false s r false)))

theorem res_s (a : Nat) (u z : Value) (i : Int) : commResult #[scase a u z] .select i undef false = .tuple #[goInt i, .bool false] := by
  simp [commResult, scase, List.zipIdx_cons]

theorem Try.zero47 (w : World) : (zeroValue 47).run Try.prog w = .ok (.slice none 0 0) w := by kernel_rfl

set_option maxHeartbeats 400000 in
theorem come_any (w : World) (q c : Nat) (closed : Bool) (coming : Int) (vs : Array Value) (s r : Nat) (ad : Addr) (n cap : Nat) (l : List Int)
    (hq : w.heap[q]? = some (.cells #[.chan (some c), .bool closed, .int .i64 coming] 86 (0, 0))) (hc : w.heap[c]? = some (.chan 64 vs false s r false))
    (hn : l.length = n) (hcells : ∀ j u, (ub l)[j]? = some u → w.cell? (ad.add j) = some u) (hsz : n ≤ 1099511627776) :
    Calls Try.prog 46 #[.pointer (some ⟨q, 0, none⟩), .slice (some ad) n cap] w (Came w c vs s r l) := by
  have HC := Lib.hid hcells
  have HN := Lib.hid hn
  have HS := Lib.hid hsz
  have hq0 : w.cell? ⟨q, 0, none⟩ = some (.chan (some c)) := cell_of_heap hq 0 rfl
  have HQ := Lib.hid hq
  have HCH := Lib.hid hc
  clear hcells hn hsz hq hc
  refine calls_of_wpN Try.func46 rfl ?_
  simp only [Try.ntmps46, List.size_toArray, List.length_cons, List.length_nil, Nat.reduceAdd, Nat.reduceSub, Array.replicate_succ,
     Array.replicate_zero, List.push_toArray, List.append_toArray, List.nil_append, List.cons_append]
  refine wpN_seq_k (fun K hK => ?_)
  go_wp2_with (go_at_call 36; refine (clone_any _ ad n cap l HN.out HC.out HS.out).mono ?_; rintro e w' ⟨v, g, rfl, hm, hg, hb⟩)
  go_wp2
  refine wpN_seq ?_
  have hc1 : w'.heap[c]? = some (.chan 64 vs false s r false) := (hb.block c (lt_of_heap HCH.out)).trans HCH.out
  by_cases hroom : vs.size < 64
  · refine wpN_select_send_room (k := 0) (blocking := false) (cases := #[scase c v (.slice none 0 0)]) rfl (by simp [go_sem, execOp, scase, Act.eval]) rfl ?_ hc1 hroom ?_
    · intro m c' hm hc'
      rcases m with _ | m
      · exact absurd rfl hm
      · simp at hc'
    rw [res_s]
    go_wp2
    refine wpN_of_wp ?_
    go_wp2
    go_end0
    refine ⟨rfl, Mv.setChan (F := fun x => x = c) ((Mv.of_below hb).mono (fun _ _ h => h.elim)) (.inl rfl) _ _ _ _ _ _, .inl ⟨hroom, v, g, hm.of_block ?_, hg, heap_setChan _ _ _ _ _ _ _ _ (lt_of_heap hc1)⟩⟩
    have hne : c ≠ g := by have := lt_of_heap HCH.out; omega
    simp only [World.setChan]
    rw [Array.getElem?_setIfInBounds_ne hne]
  · refine wpN_select_default (cases := #[scase c v (.slice none 0 0)]) rfl (by simp [go_sem, execOp, scase, Act.eval]) ?_ ?_
    · intro cc hcc
      simp only [List.mem_toArray, List.mem_cons, List.not_mem_nil, or_false] at hcc
      subst hcc
      exact noWay_send hc1 (by omega)
    rw [res_s]
    go_wp2
    refine wpN_of_wp ?_
    go_wp2
    go_end0
    exact ⟨rfl, (Mv.of_below hb).mono (fun _ _ h => h.elim), .inr ⟨by omega, hc1⟩⟩
end Go.Proofs.Ytadalodjnbnjkaa
