/- What memory of the network of lanes reads as: messages, queues, and the frame of a call. -/
import Derived.Test.YtadalodjnbnjkaaProg
import Derived.WalkKit
import Derived.WalkLawsBesides
import Derived.WalkSpells
import Derived.Test.YtadalodjnbnjkaaComm
import Derived.Lib.Hide
namespace Go.Proofs.Ytadalodjnbnjkaa
open Go.RowKit

/-- Only blocks of F may have turned; new ones may have come. -/
structure Mv (F : Nat → Prop) (w w' : World) : Prop where
  os : w'.os = w.os
  tape : w'.tape = w.tape
  output : w'.output = w.output
  size : w.heap.size ≤ w'.heap.size
  block : ∀ k, k < w.heap.size → ¬ F k → w'.heap[k]? = w.heap[k]?

theorem Mv.refl (F : Nat → Prop) (w : World) : Mv F w w := ⟨rfl, rfl, rfl, Nat.le_refl _, fun _ _ _ => rfl⟩
theorem Mv.trans {F : Nat → Prop} {a b c : World} (h : Mv F a b) (k : Mv F b c) : Mv F a c :=
  ⟨k.os.trans h.os, k.tape.trans h.tape, k.output.trans h.output, Nat.le_trans h.size k.size,
    fun i hi hf => (k.block i (Nat.lt_of_lt_of_le hi h.size) hf).trans (h.block i hi hf)⟩
/-- What the second step may turn need only be so of blocks that the first world had. -/
theorem Mv.trans' {F G : Nat → Prop} {a b c : World} (h : Mv F a b) (k : Mv G b c) (hG : ∀ i, i < a.heap.size → G i → F i) : Mv F a c :=
  ⟨k.os.trans h.os, k.tape.trans h.tape, k.output.trans h.output, Nat.le_trans h.size k.size,
    fun i hi hf => (k.block i (Nat.lt_of_lt_of_le hi h.size) (fun g => hf (hG i hi g))).trans (h.block i hi hf)⟩
theorem Mv.mono {F G : Nat → Prop} {a b : World} (h : Mv F a b) (hG : ∀ i, i < a.heap.size → F i → G i) : Mv G a b :=
  ⟨h.os, h.tape, h.output, h.size, fun i hi hg => h.block i hi (fun f => hg (hG i hi f))⟩
theorem Mv.drew {F : Nat → Prop} {a w : World} (h : Mv F a w) : Mv F a w.drew := ⟨h.os, h.tape, h.output, h.size, h.block⟩
theorem Mv.alloc {F : Nat → Prop} {a w : World} (h : Mv F a w) (o : Obj) : Mv F a (w.alloc o) :=
  ⟨h.os, h.tape, h.output, Nat.le_trans h.size (by simp), fun k hk hf => (Below.heap_alloc w o k (Nat.lt_of_lt_of_le hk h.size)).trans (h.block k hk hf)⟩
theorem Mv.setCell {F : Nat → Prop} {a w : World} (h : Mv F a w) {p : Addr} (hp : F p.block ∨ a.heap.size ≤ p.block) (u : Value) : Mv F a (w.setCell p u) :=
  ⟨h.os, h.tape, h.output, by simpa [World.setCell] using h.size, fun k hk hf =>
    (Below.heap_setCell w p u k (fun e => by subst e; rcases hp with hp | hp; · exact hf hp
                                             · omega)).trans (h.block k hk hf)⟩
theorem Mv.setChan {F : Nat → Prop} {a w : World} (h : Mv F a w) {c : Nat} (hp : F c ∨ a.heap.size ≤ c) (cap : Nat) (buf : Array Value) (cl : Bool) (s r : Nat) (tm : Bool) : Mv F a (w.setChan c cap buf cl s r tm) :=
  ⟨h.os, h.tape, h.output, by simpa [World.setChan] using h.size, fun k hk hf => by
    have hne : c ≠ k := fun e => by subst e; rcases hp with hp | hp; · exact hf hp
                                    · omega
    simp only [World.setChan]
    rw [Array.getElem?_setIfInBounds_ne hne]
    exact h.block k hk hf⟩
theorem Mv.of_below {w w' : World} (h : Below w.heap.size w w') : Mv (fun _ => False) w w' := ⟨h.os, h.tape, h.output, h.size, fun k hk _ => h.block k hk⟩
theorem Mv.below {w w' : World} (h : Mv (fun _ => False) w w') : Below w.heap.size w w' := ⟨h.os, h.tape, h.output, h.size, fun k hk => h.block k hk id⟩
theorem Mv.grown {F : Nat → Prop} {a w w' : World} {row : Option Nat} (h : Mv F a w) (hg : w.grownBy w' row) (hr : ∀ k, row = some k → F k ∨ a.heap.size ≤ k) : Mv F a w' :=
  ⟨hg.os.trans h.os, hg.tape.trans h.tape, hg.output.trans h.output, Nat.le_trans h.size hg.size, fun k hk hf =>
    (hg.block k (Nat.lt_of_lt_of_le hk h.size) (fun e => by rcases hr k e.symm with hp | hp; · exact hf hp
                                                            · omega)).trans (h.block k hk hf)⟩
theorem Mv.cell {F : Nat → Prop} {w w' : World} (h : Mv F w w') {p : Addr} (hp : p.block < w.heap.size) (hf : ¬ F p.block) : w'.cell? p = w.cell? p :=
  World.cell?_of_block (w := w) (h.block p.block hp hf)
theorem Mv.frozen {F : Nat → Prop} {w w' : World} (h : Mv F w w') {p : Addr} (hp : p.block < w.heap.size) (hf : ¬ F p.block) : w'.frozen? p = w.frozen? p :=
  World.frozen?_of_block (w := w) (h.block p.block hp hf)

theorem lt_of_heap {w : World} {b : Nat} {o : Obj} (h : w.heap[b]? = some o) : b < w.heap.size := (Array.getElem?_eq_some_iff.1 h).1

theorem cell_of_heap {w : World} {b : Nat} {C : Array Value} {E : TypeId} (h : w.heap[b]? = some (.cells C E (0, 0))) (j : Nat) {v : Value} (hv : C[j]? = some v) : w.cell? ⟨b, j, none⟩ = some v := by
  rw [cell_of_row w b j C E (0, 0) h]; exact hv
theorem free_of_heap {w : World} {b : Nat} {C : Array Value} {E : TypeId} (h : w.heap[b]? = some (.cells C E (0, 0))) (j : Nat) : w.frozen? ⟨b, j, none⟩ = false := by
  simp [World.frozen?, h]
theorem heap_setCell_same {w : World} {b j : Nat} {C : Array Value} {E : TypeId} (h : w.heap[b]? = some (.cells C E (0, 0))) (v : Value) : (w.setCell ⟨b, j, none⟩ v).heap[b]? = some (.cells (C.setIfInBounds j v) E (0, 0)) := by
  simp [World.setCell, Array.getElem?_modify, h]
theorem heap_setCell_other {w : World} {b j k : Nat} (h : k ≠ b) (v : Value) : (w.setCell ⟨b, j, none⟩ v).heap[k]? = w.heap[k]? := Below.heap_setCell w ⟨b, j, none⟩ v k h

/-- The cells of a message. -/
def ub (l : List Int) : List Value := l.map (Value.int .u8)
theorem ub_length (l : List Int) : (ub l).length = l.length := by simp [ub]
theorem ub_get {l : List Int} {j : Nat} {u : Value} (h : (ub l)[j]? = some u) : j < l.length ∧ u = .int .u8 (l.getD j 0) := by
  simp only [ub, List.getElem?_map, Option.map_eq_some_iff] at h
  obtain ⟨x, hx, rfl⟩ := h
  have := (List.getElem?_eq_some_iff.1 hx).1
  exact ⟨this, by simp [List.getD, hx]⟩

/-- v is the whole of block g's row, from its head, and reads l; there may be more room behind. -/
def MsgAt (w : World) (g : Nat) (v : Value) (l : List Int) : Prop :=
  ∃ cap cur, v = .slice (some ⟨g, 0, none⟩) l.length cap ∧ w.heap[g]? = some (.cells cur 5 (0, 0)) ∧ l.length ≤ cap ∧ cap ≤ maxLen ∧ cur.size = cap ∧ cur.toList.take l.length = ub l

theorem MsgAt.of_block {w w' : World} {g : Nat} {v : Value} {l : List Int} (h : MsgAt w g v l) (hb : w'.heap[g]? = w.heap[g]?) : MsgAt w' g v l := by
  obtain ⟨cap, cur, hv, hg, rest⟩ := h
  exact ⟨cap, cur, hv, hb.trans hg, rest⟩
theorem MsgAt.lt {w : World} {g : Nat} {v : Value} {l : List Int} (h : MsgAt w g v l) : g < w.heap.size := by
  obtain ⟨cap, cur, hv, hg, rest⟩ := h
  exact lt_of_heap hg
/-- A message's cells. -/
theorem MsgAt.cells {w : World} {g : Nat} {v : Value} {l : List Int} (h : MsgAt w g v l) : ∀ j u, (ub l)[j]? = some u → w.cell? ((⟨g, 0, none⟩ : Addr).add j) = some u := by
  obtain ⟨cap, cur, hv, hg, h1, h2, h3, h4⟩ := h
  intro j u hu
  have hadd : (⟨g, 0, none⟩ : Addr).add j = ⟨g, j, none⟩ := by unfold Addr.add; split <;> simp_all
  rw [hadd, cell_of_row w g j cur 5 (0, 0) hg]
  rw [← h4, List.getElem?_take] at hu
  split at hu
  · simpa using hu
  · cases hu

/-- What bytes.Clone leaves of a message. -/
def Cloned (w : World) (l : List Int) (e : Ending) (w' : World) : Prop :=
  ∃ v g, e = .returned v ∧ MsgAt w' g v l ∧ w.heap.size ≤ g ∧ Below w.heap.size w w'

theorem Try.info5 : (Try.prog.info? 5).map (fun i => (i.zero, i.size, i.bytes)) = some (some (.int .u8 0), 1, 1) := by kernel_rfl

theorem madeEmpty (W : World) : (W.alloc (.cells #[] 5)).ownsRow W.heap.size 5 1 (.slice (some ⟨W.heap.size, 0, none⟩) 0 0) 0 [] :=
  World.ownsRow_made W #[] 0 (Nat.le_refl _) (by decide) rfl

theorem ownsRow_msg {w : World} {base n : Nat} {v : Value} {l : List Int} (h : w.ownsRow base 5 1 v n (ub l)) (hn : l.length = n) (hv : v ≠ .slice none 0 0) : ∃ g, MsgAt w g v l ∧ base ≤ g := by
  subst hn
  rcases h.2 with ⟨h1, _⟩ | ⟨g, cap, cur, rfl, hb, hg, h1, h2, h3, h4⟩
  · exact absurd h1 hv
  · exact ⟨g, ⟨cap, cur, rfl, hg, h1, h2, by simpa using h3, by simpa using h4⟩, hb⟩

set_option maxHeartbeats 400000 in
/-- bytes.Clone of a slice that is not nil. -/
theorem clone_any (w : World) (ad : Addr) (n cap : Nat) (l : List Int) (hn : l.length = n) (hcells : ∀ j u, (ub l)[j]? = some u → w.cell? (ad.add j) = some u) (hsz : n ≤ 1099511627776) :
    Calls Try.prog 36 #[.slice (some ad) n cap] w (Cloned w l) := by
  obtain ⟨i0, hi, hz0, hz1, hz2⟩ := info_parts Try.info5
  have hnil := fun (W : World) => Lib.run_eql_slice_nil (P := Try.prog) W 47 5 (some ad) n cap 0 0 Try.underlying47
  have HC := Lib.hid hcells
  have HN := Lib.hid hn
  clear hcells hn
  go_enter Try.func36, Try.ntmps36
  go_wp2_with (first
    | (at_builtin; refine wpList_append_own _ rfl _ _ 47 rfl w.heap.size 5 i0 (.int .u8 0) 1 1 Try.underlying47 hi hz0 hz1 hz2 rfl (by decide) _ _ _ rfl (madeEmpty _) ad n cap (ub l) rfl ?c0 ?c1 ?c2 ?c3 ?c4 ?c5 ?_))
  case c0 => rw [ub_length, HN.out]; simp
  case c1 => 
    intro j u hj
    have h1 := HC.out j u hj
    have := World.block_lt_of_cell? w _ h1
    rw [World.cell?_of_block (w := w) (Below.heap_alloc w _ _ this)]
    exact h1
  case c2 =>
    intro u hu
    simp only [ub, List.mem_map] at hu
    obtain ⟨x, _, rfl⟩ := hu
    rfl
  case c3 => unfold maxLen; omega
  case c4 => omega
  case c5 => simp
  · intro v' w1 hown hgrow hnv
    go_wp2
    go_ret
    have hv : v' ≠ .slice none 0 0 := hnv
    obtain ⟨g, hm, hb⟩ := ownsRow_msg (by simpa using hown) HN.out hv
    exact ⟨v', g, rfl, hm, hb, ((Below.refl _ _).alloc (Nat.le_refl _) _).grown hgrow (by simp) (fun k hk => by simp [Value.ownBlock] at hk; omega)⟩
end Go.Proofs.Ytadalodjnbnjkaa
