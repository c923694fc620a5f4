/- What memory of the network of lanes reads as: messages, queues, and the frame of a call. -/
import Derived.Test.YtadalodjnbnjkaaProg
import Derived.Test.YtadalodjnbnjkaaPlay01
import Derived.WalkKit
import Derived.WalkLawsBesides
import Derived.WalkSpells
import Derived.Lib.Hide
namespace Go.Proofs.Ytadalodjnbnjkaa
open Go.RowKit

/-- Only blocks of F may have turned; new ones may have come. -/
structure Mv (F : Nat → Prop) (w w' : World) : Prop where
  os : w'.os = w.os
  tape : w'.tape = w.tape
  output : w'.output = w.output
  size : w.heap.size ≤ w'.heap.size
  block : ∀ k, k < w.heap.size → ¬ F k → w'.heap[k]? = w.heap[k]?

theorem Mv.refl (F : Nat → Prop) (w : World) : Mv F w w := ⟨rfl, rfl, rfl, Nat.le_refl _, fun _ _ _ => rfl⟩
theorem Mv.trans {F : Nat → Prop} {a b c : World} (h : Mv F a b) (k : Mv F b c) : Mv F a c :=
  ⟨k.os.trans h.os, k.tape.trans h.tape, k.output.trans h.output, Nat.le_trans h.size k.size,
    fun i hi hf => (k.block i (Nat.lt_of_lt_of_le hi h.size) hf).trans (h.block i hi hf)⟩
/-- What the second step may turn need only be so of blocks that the first world had. -/
theorem Mv.trans' {F G : Nat → Prop} {a b c : World} (h : Mv F a b) (k : Mv G b c) (hG : ∀ i, i < a.heap.size → G i → F i) : Mv F a c :=
  ⟨k.os.trans h.os, k.tape.trans h.tape, k.output.trans h.output, Nat.le_trans h.size k.size,
    fun i hi hf => (k.block i (Nat.lt_of_lt_of_le hi h.size) (fun g => hf (hG i hi g))).trans (h.block i hi hf)⟩
theorem Mv.mono {F G : Nat → Prop} {a b : World} (h : Mv F a b) (hG : ∀ i, i < a.heap.size → F i → G i) : Mv G a b :=
  ⟨h.os, h.tape, h.output, h.size, fun i hi hg => h.block i hi (fun f => hg (hG i hi f))⟩
theorem Mv.drew {F : Nat → Prop} {a w : World} (h : Mv F a w) : Mv F a w.drew := ⟨h.os, h.tape, h.output, h.size, h.block⟩
theorem Mv.alloc {F : Nat → Prop} {a w : World} (h : Mv F a w) (o : Obj) : Mv F a (w.alloc o) :=
  ⟨h.os, h.tape, h.output, Nat.le_trans h.size (by simp), fun k hk hf => (Below.heap_alloc w o k (Nat.lt_of_lt_of_le hk h.size)).trans (h.block k hk hf)⟩
theorem Mv.setCell {F : Nat → Prop} {a w : World} (h : Mv F a w) {p : Addr} (hp : F p.block ∨ a.heap.size ≤ p.block) (u : Value) : Mv F a (w.setCell p u) :=
  ⟨h.os, h.tape, h.output, by simpa [World.setCell] using h.size, fun k hk hf =>
    (Below.heap_setCell w p u k (fun e => by subst e; rcases hp with hp | hp; · exact hf hp
                                             · omega)).trans (h.block k hk hf)⟩
theorem Mv.setChan {F : Nat → Prop} {a w : World} (h : Mv F a w) {c : Nat} (hp : F c ∨ a.heap.size ≤ c) (cap : Nat) (buf : Array Value) (cl : Bool) (s r : Nat) (tm : Bool) : Mv F a (w.setChan c cap buf cl s r tm) :=
  ⟨h.os, h.tape, h.output, by simpa [World.setChan] using h.size, fun k hk hf => by
    have hne : c ≠ k := fun e => by subst e; rcases hp with hp | hp; · exact hf hp
                                    · omega
    simp only [World.setChan]
    rw [Array.getElem?_setIfInBounds_ne hne]
    exact h.block k hk hf⟩
theorem Mv.of_below {w w' : World} (h : Below w.heap.size w w') : Mv (fun _ => False) w w' := ⟨h.os, h.tape, h.output, h.size, fun k hk _ => h.block k hk⟩
theorem Mv.below {w w' : World} (h : Mv (fun _ => False) w w') : Below w.heap.size w w' := ⟨h.os, h.tape, h.output, h.size, fun k hk => h.block k hk id⟩
theorem Mv.grown {F : Nat → Prop} {a w w' : World} {row : Option Nat} (h : Mv F a w) (hg : w.grownBy w' row) (hr : ∀ k, row = some k → F k ∨ a.heap.size ≤ k) : Mv F a w' :=
  ⟨hg.os.trans h.os, hg.tape.trans h.tape, hg.output.trans h.output, Nat.le_trans h.size hg.size, fun k hk hf =>
    (hg.block k (Nat.lt_of_lt_of_le hk h.size) (fun e => by rcases hr k e.symm with hp | hp; · exact hf hp
                                                            · omega)).trans (h.block k hk hf)⟩
theorem Mv.cell {F : Nat → Prop} {w w' : World} (h : Mv F w w') {p : Addr} (hp : p.block < w.heap.size) (hf : ¬ F p.block) : w'.cell? p = w.cell? p :=
  World.cell?_of_block (w := w) (h.block p.block hp hf)
theorem Mv.frozen {F : Nat → Prop} {w w' : World} (h : Mv F w w') {p : Addr} (hp : p.block < w.heap.size) (hf : ¬ F p.block) : w'.frozen? p = w.frozen? p :=
  World.frozen?_of_block (w := w) (h.block p.block hp hf)

theorem lt_of_heap {w : World} {b : Nat} {o : Obj} (h : w.heap[b]? = some o) : b < w.heap.size := (Array.getElem?_eq_some_iff.1 h).1

theorem cell_of_heap {w : World} {b : Nat} {C : Array Value} {E : TypeId} (h : w.heap[b]? = some (.cells C E (0, 0))) (j : Nat) {v : Value} (hv : C[j]? = some v) : w.cell? ⟨b, j, none⟩ = some v := by
  rw [cell_of_row w b j C E (0, 0) h]; exact hv
theorem free_of_heap {w : World} {b : Nat} {C : Array Value} {E : TypeId} (h : w.heap[b]? = some (.cells C E (0, 0))) (j : Nat) : w.frozen? ⟨b, j, none⟩ = false := by
  simp [World.frozen?, h]
theorem heap_setCell_same {w : World} {b j : Nat} {C : Array Value} {E : TypeId} (h : w.heap[b]? = some (.cells C E (0, 0))) (v : Value) : (w.setCell ⟨b, j, none⟩ v).heap[b]? = some (.cells (C.setIfInBounds j v) E (0, 0)) := by
  simp [World.setCell, Array.getElem?_modify, h]
theorem heap_setCell_other {w : World} {b j k : Nat} (h : k ≠ b) (v : Value) : (w.setCell ⟨b, j, none⟩ v).heap[k]? = w.heap[k]? := Below.heap_setCell w ⟨b, j, none⟩ v k h

/-- The cells of a message. -/
def ub (l : List Int) : List Value := l.map (Value.int .u8)
theorem ub_length (l : List Int) : (ub l).length = l.length := by simp [ub]
theorem ub_get {l : List Int} {j : Nat} {u : Value} (h : (ub l)[j]? = some u) : j < l.length ∧ u = .int .u8 (l.getD j 0) := by
  simp only [ub, List.getElem?_map, Option.map_eq_some_iff] at h
  obtain ⟨x, hx, rfl⟩ := h
  have := (List.getElem?_eq_some_iff.1 hx).1
  exact ⟨this, by simp [List.getD, hx]⟩

/-- v is the whole of block g's row, from its head, and reads l; there may be more room behind. -/
def MsgAt (w : World) (g : Nat) (v : Value) (l : List Int) : Prop :=
  ∃ cap cur, v = .slice (some ⟨g, 0, none⟩) l.length cap ∧ w.heap[g]? = some (.cells cur 5 (0, 0)) ∧ l.length ≤ cap ∧ cap ≤ maxLen ∧ cur.size = cap ∧ cur.toList.take l.length = ub l

theorem MsgAt.of_block {w w' : World} {g : Nat} {v : Value} {l : List Int} (h : MsgAt w g v l) (hb : w'.heap[g]? = w.heap[g]?) : MsgAt w' g v l := by
  obtain ⟨cap, cur, hv, hg, rest⟩ := h
  exact ⟨cap, cur, hv, hb.trans hg, rest⟩
theorem MsgAt.lt {w : World} {g : Nat} {v : Value} {l : List Int} (h : MsgAt w g v l) : g < w.heap.size := by
  obtain ⟨cap, cur, hv, hg, rest⟩ := h
  exact lt_of_heap hg
/-- A message's cells. -/
theorem MsgAt.cells {w : World} {g : Nat} {v : Value} {l : List Int} (h : MsgAt w g v l) : ∀ j u, (ub l)[j]? = some u → w.cell? ((⟨g, 0, none⟩ : Addr).add j) = some u := by
  obtain ⟨cap, cur, hv, hg, h1, h2, h3, h4⟩ := h
  intro j u hu
  have hadd : (⟨g, 0, none⟩ : Addr).add j = ⟨g, j, none⟩ := by unfold Addr.add; split <;> simp_all
  rw [hadd, cell_of_row w g j cur 5 (0, 0) hg]
  rw [← h4, List.getElem?_take] at hu
  split at hu
  · simpa using hu
  · cases hu

/-- What bytes.Clone leaves of a message. -/
def Cloned (w : World) (l : List Int) (e : Ending) (w' : World) : Prop :=
  ∃ v g, e = .returned v ∧ MsgAt w' g v l ∧ w.heap.size ≤ g ∧ Below w.heap.size w w'

theorem Try.info5 : (Try.prog.info? 5).map (fun i => (i.zero, i.size, i.bytes)) = some (some (.int .u8 0), 1, 1) := by kernel_rfl

theorem madeEmpty (W : World) : (W.alloc (.cells #[] 5)).ownsRow W.heap.size 5 1 (.slice (some ⟨W.heap.size, 0, none⟩) 0 0) 0 [] :=
  World.ownsRow_made W #[] 0 (Nat.le_refl _) (by decide) rfl

theorem ownsRow_msg {w : World} {base n : Nat} {v : Value} {l : List Int} (h : w.ownsRow base 5 1 v n (ub l)) (hn : l.length = n) (hv : v ≠ .slice none 0 0) : ∃ g, MsgAt w g v l ∧ base ≤ g := by
  subst hn
  rcases h.2 with ⟨h1, _⟩ | ⟨g, cap, cur, rfl, hb, hg, h1, h2, h3, h4⟩
  · exact absurd h1 hv
  · exact ⟨g, ⟨cap, cur, rfl, hg, h1, h2, by simpa using h3, by simpa using h4⟩, hb⟩

set_option maxHeartbeats 400000 in
/-- bytes.Clone of a slice that is not nil. -/
theorem clone_any (w : World) (ad : Addr) (n cap : Nat) (l : List Int) (hn : l.length = n) (hcells : ∀ j u, (ub l)[j]? = some u → w.cell? (ad.add j) = some u) (hsz : n ≤ 1099511627776) :
    Calls Try.prog 36 #[.slice (some ad) n cap] w (Cloned w l) := by
  obtain ⟨i0, hi, hz0, hz1, hz2⟩ := info_parts Try.info5
  have hnil := fun (W : World) => Lib.run_eql_slice_nil (P := Try.prog) W 47 5 (some ad) n cap 0 0 Try.underlying47
  have HC := Lib.hid hcells
  have HN := Lib.hid hn
  clear hcells hn
  go_enter Try.func36, Try.ntmps36
  go_wp2_with (first
    | (at_builtin; refine wpList_append_own _ rfl _ _ 47 rfl w.heap.size 5 i0 (.int .u8 0) 1 1 Try.underlying47 hi hz0 hz1 hz2 rfl (by decide) _ _ _ rfl (madeEmpty _) ad n cap (ub l) rfl ?c0 ?c1 ?c2 ?c3 ?c4 ?c5 ?_))
  case c0 => rw [ub_length, HN.out]; simp
  case c1 => 
    intro j u hj
    have h1 := HC.out j u hj
    have := World.block_lt_of_cell? w _ h1
    rw [World.cell?_of_block (w := w) (Below.heap_alloc w _ _ this)]
    exact h1
  case c2 =>
    intro u hu
    simp only [ub, List.mem_map] at hu
    obtain ⟨x, _, rfl⟩ := hu
    rfl
  case c3 => unfold maxLen; omega
  case c4 => omega
  case c5 => simp
  · intro v' w1 hown hgrow hnv
    go_wp2
    go_ret
    have hv : v' ≠ .slice none 0 0 := hnv
    obtain ⟨g, hm, hb⟩ := ownsRow_msg (by simpa using hown) HN.out hv
    exact ⟨v', g, rfl, hm, hb, ((Below.refl _ _).alloc (Nat.le_refl _) _).grown hgrow (by simp) (fun k hk => by simp [Value.ownBlock] at hk; omega)⟩
end Go.Proofs.Ytadalodjnbnjkaa

/- (*queue).come: the message is cloned; it joins what waits on the lane, if there is room. -/
namespace Go.Proofs.Ytadalodjnbnjkaa
open Go.RowKit Go.Conc

/-- What come leaves: the channel has one message more, or is full and as it was. -/
def Came (w : World) (c : Nat) (vs : Array Value) (s r : Nat) (l : List Int) (e : Ending) (w' : World) : Prop :=
  e = .returned (.tuple #[]) ∧ Mv (· = c) w w' ∧
    ((vs.size < 64 ∧ ∃ v g, MsgAt w' g v l ∧ w.heap.size ≤ g ∧ w'.heap[c]? = some (.chan 64 (vs.push v) false (s + 1) r false)) ∨
     (64 ≤ vs.size ∧ w'.heap[c]? = some (.chan 64 vs false s r false)))

theorem res_s (a : Nat) (u z : Value) (i : Int) : commResult #[scase a u z] .select i undef false = .tuple #[goInt i, .bool false] := by
  simp [commResult, scase, List.zipIdx_cons]

theorem Try.zero47 (w : World) : (zeroValue 47).run Try.prog w = .ok (.slice none 0 0) w := by kernel_rfl

set_option maxHeartbeats 400000 in
theorem come_any (w : World) (q c : Nat) (closed : Bool) (coming : Int) (vs : Array Value) (s r : Nat) (ad : Addr) (n cap : Nat) (l : List Int)
    (hq : w.heap[q]? = some (.cells #[.chan (some c), .bool closed, .int .i64 coming] 86 (0, 0))) (hc : w.heap[c]? = some (.chan 64 vs false s r false))
    (hn : l.length = n) (hcells : ∀ j u, (ub l)[j]? = some u → w.cell? (ad.add j) = some u) (hsz : n ≤ 1099511627776) :
    Calls Try.prog 46 #[.pointer (some ⟨q, 0, none⟩), .slice (some ad) n cap] w (Came w c vs s r l) := by
  have HC := Lib.hid hcells
  have HN := Lib.hid hn
  have HS := Lib.hid hsz
  have hq0 : w.cell? ⟨q, 0, none⟩ = some (.chan (some c)) := cell_of_heap hq 0 rfl
  have HQ := Lib.hid hq
  have HCH := Lib.hid hc
  clear hcells hn hsz hq hc
  refine calls_of_wpN Try.func46 rfl ?_
  simp only [Try.ntmps46, List.size_toArray, List.length_cons, List.length_nil, Nat.reduceAdd, Nat.reduceSub, Array.replicate_succ,
     Array.replicate_zero, List.push_toArray, List.append_toArray, List.nil_append, List.cons_append]
  refine wpN_seq_k (fun K hK => ?_)
  go_wp2_with (go_at_call 36; refine (clone_any _ ad n cap l HN.out HC.out HS.out).mono ?_; rintro e w' ⟨v, g, rfl, hm, hg, hb⟩)
  go_wp2
  refine wpN_seq ?_
  have hc1 : w'.heap[c]? = some (.chan 64 vs false s r false) := (hb.block c (lt_of_heap HCH.out)).trans HCH.out
  by_cases hroom : vs.size < 64
  · refine wpN_select_send_room (k := 0) (blocking := false) (cases := #[scase c v (.slice none 0 0)]) rfl (by simp [go_sem, execOp, scase, Act.eval]) rfl ?_ hc1 hroom ?_
    · intro m c' hm hc'
      rcases m with _ | m
      · exact absurd rfl hm
      · simp at hc'
    rw [res_s]
    go_wp2
    refine wpN_of_wp ?_
    go_wp2
    go_end0
    refine ⟨rfl, Mv.setChan (F := fun x => x = c) ((Mv.of_below hb).mono (fun _ _ h => h.elim)) (.inl rfl) _ _ _ _ _ _, .inl ⟨hroom, v, g, hm.of_block ?_, hg, heap_setChan _ _ _ _ _ _ _ _ (lt_of_heap hc1)⟩⟩
    have hne : c ≠ g := by have := lt_of_heap HCH.out; omega
    simp only [World.setChan]
    rw [Array.getElem?_setIfInBounds_ne hne]
  · refine wpN_select_default (cases := #[scase c v (.slice none 0 0)]) rfl (by simp [go_sem, execOp, scase, Act.eval]) ?_ ?_
    · intro cc hcc
      simp only [List.mem_toArray, List.mem_cons, List.not_mem_nil, or_false] at hcc
      subst hcc
      exact noWay_send hc1 (by omega)
    rw [res_s]
    go_wp2
    refine wpN_of_wp ?_
    go_wp2
    go_end0
    exact ⟨rfl, (Mv.of_below hb).mono (fun _ _ h => h.elim), .inr ⟨by omega, hc1⟩⟩
end Go.Proofs.Ytadalodjnbnjkaa

/- The small functions of the network of lanes: has, Now, over, end, Waiting, below. -/
namespace Go.Proofs.Ytadalodjnbnjkaa
open Go.RowKit Go.Conc

theorem has_yes (w : World) (p nl cap : Nat) (ad : Option Addr) (x : Int) (h0 : w.cell? ⟨p, 0, none⟩ = some (.slice ad nl cap)) (h1 : 0 ≤ x) (h2 : x < nl) :
    Calls Try.prog 33 #[.pointer (some ⟨p, 0, none⟩), .int .i64 x] w fun e w' => e = .returned (.bool true) ∧ w = w' := by
  have g1 : decide (0 ≤ x) = true := by simpa using h1
  have g2 : decide (x < nl) = true := by simpa using h2
  go_enter Try.func33, Try.ntmps33
  go_wp2
  go_ret
  exact ⟨rfl, rfl⟩

theorem has_no (w : World) (p nl cap : Nat) (ad : Option Addr) (x : Int) (h0 : w.cell? ⟨p, 0, none⟩ = some (.slice ad nl cap)) (h1 : x < 0 ∨ nl ≤ x) :
    Calls Try.prog 33 #[.pointer (some ⟨p, 0, none⟩), .int .i64 x] w fun e w' => e = .returned (.bool false) ∧ w = w' := by
  by_cases h2 : 0 ≤ x
  · have h3 : nl ≤ x := by omega
    have g1 : decide (0 ≤ x) = true := by simpa using h2
    have g2 : decide (x < nl) = false := by simpa using h3
    clear h1
    go_enter Try.func33, Try.ntmps33
    go_wp2
    go_ret
    exact ⟨rfl, rfl⟩
  · have g1 : decide (0 ≤ x) = false := by simpa using h2
    clear h1
    go_enter Try.func33, Try.ntmps33
    go_wp2
    go_ret
    exact ⟨rfl, rfl⟩

theorem now_any (w : World) (p : Nat) (t : Int) (h0 : w.cell? ⟨p, 3, none⟩ = some (.int .i64 t)) :
    Calls Try.prog 16 #[.pointer (some ⟨p, 0, none⟩)] w fun e w' => e = .returned (.int .i64 t) ∧ w = w' := by
  go_enter Try.func16, Try.ntmps16
  go_wp2
  go_ret
  exact ⟨rfl, rfl⟩

theorem over_shut (w : World) (q c cap s r : Nat) (buf : Array Value) (sh : Bool) (h0 : w.cell? ⟨q, 0, none⟩ = some (.chan (some c))) (h1 : w.cell? ⟨q, 1, none⟩ = some (.bool true)) (h2 : w.cell? ⟨q, 2, none⟩ = some (.int .i64 0))
    (hc : w.heap[c]? = some (.chan cap buf sh s r false)) (b : Bool) (hb : decide ((buf.size : Int) = 0) = b) :
    Calls Try.prog 47 #[.pointer (some ⟨q, 0, none⟩)] w fun e w' => e = .returned (.bool b) ∧ w = w' := by
  have hlen := fun ty => run_len_chan (P := Try.prog) 84 ty Try.underlying84 hc
  have hb' : ((buf.size : Int) == 0) = b := by rw [← hb]; rfl
  clear hc hb
  go_enter Try.func47, Try.ntmps47
  go_wp2
  go_ret
  exact ⟨rfl, rfl⟩

theorem over_open (w : World) (q : Nat) (h1 : w.cell? ⟨q, 1, none⟩ = some (.bool false)) :
    Calls Try.prog 47 #[.pointer (some ⟨q, 0, none⟩)] w fun e w' => e = .returned (.bool false) ∧ w = w' := by
  go_enter Try.func47, Try.ntmps47
  go_wp2
  go_ret
  exact ⟨rfl, rfl⟩

theorem over_coming (w : World) (q : Nat) (n : Int) (h1 : w.cell? ⟨q, 1, none⟩ = some (.bool true)) (h2 : w.cell? ⟨q, 2, none⟩ = some (.int .i64 n)) (hn : (n == 0) = false) :
    Calls Try.prog 47 #[.pointer (some ⟨q, 0, none⟩)] w fun e w' => e = .returned (.bool false) ∧ w = w' := by
  go_enter Try.func47, Try.ntmps47
  go_wp2
  go_ret
  exact ⟨rfl, rfl⟩

theorem end_open (w : World) (q : Nat) (h1 : w.cell? ⟨q, 1, none⟩ = some (.bool false)) :
    Calls Try.prog 40 #[.pointer (some ⟨q, 0, none⟩)] w fun e w' => e = .returned (.tuple #[]) ∧ w = w' := by
  go_enter Try.func40, Try.ntmps40
  go_wp2
  go_end0
  exact ⟨rfl, rfl⟩

theorem end_coming (w : World) (q : Nat) (n : Int) (h1 : w.cell? ⟨q, 1, none⟩ = some (.bool true)) (h2 : w.cell? ⟨q, 2, none⟩ = some (.int .i64 n)) (hn : (n == 0) = false) :
    Calls Try.prog 40 #[.pointer (some ⟨q, 0, none⟩)] w fun e w' => e = .returned (.tuple #[]) ∧ w = w' := by
  go_enter Try.func40, Try.ntmps40
  go_wp2
  go_end0
  exact ⟨rfl, rfl⟩

theorem end_shut (w : World) (q c cap s r : Nat) (buf : Array Value) (h0 : w.cell? ⟨q, 0, none⟩ = some (.chan (some c))) (h1 : w.cell? ⟨q, 1, none⟩ = some (.bool true)) (h2 : w.cell? ⟨q, 2, none⟩ = some (.int .i64 0))
    (hc : w.heap[c]? = some (.chan cap buf false s r false)) :
    Calls Try.prog 40 #[.pointer (some ⟨q, 0, none⟩)] w fun e w' => e = .returned (.tuple #[]) ∧ w.setChan c cap buf true s r false = w' := by
  have hcl := fun ats ty => run_close_open (P := Try.prog) (w := w) ats ty hc
  clear hc
  go_enter Try.func40, Try.ntmps40
  go_wp2
  go_end0
  exact ⟨rfl, rfl⟩

theorem waiting_any (w : World) (p ar nl cap q c room s r i : Nat) (buf : Array Value) (sh : Bool) (h0 : w.cell? ⟨p, 0, none⟩ = some (.slice (some ⟨ar, 0, none⟩) nl cap)) (hi : i < nl)
    (h1 : w.cell? ⟨ar, i, none⟩ = some (.pointer (some ⟨q, 0, none⟩))) (h2 : w.cell? ⟨q, 0, none⟩ = some (.chan (some c))) (hc : w.heap[c]? = some (.chan room buf sh s r false)) :
    Calls Try.prog 15 #[.pointer (some ⟨p, 0, none⟩), .int .i64 i] w fun e w' => e = .returned (.tuple #[.int .i64 buf.size, .int .i64 0]) ∧ w = w' := by
  have hlen := fun ty => run_len_chan (P := Try.prog) 84 ty Try.underlying84 hc
  have hii : (i : Int) < nl := by omega
  clear hc
  go_enter Try.func15, Try.ntmps15
  go_wp2_with (go_at_call 33; refine (has_yes _ p nl cap _ _ h0 (by omega) (by omega)).mono ?_; rintro e w' ⟨rfl, rfl⟩)
  go_ret2
  exact ⟨rfl, rfl⟩

theorem waiting_no (w : World) (p nl cap : Nat) (ad : Option Addr) (x : Int) (h0 : w.cell? ⟨p, 0, none⟩ = some (.slice ad nl cap)) (h1 : x < 0 ∨ nl ≤ x) :
    Calls Try.prog 15 #[.pointer (some ⟨p, 0, none⟩), .int .i64 x] w fun e w' => e = .returned (.tuple #[.int .i64 0, .int .i64 192]) ∧ w = w' := by
  have H := Lib.hid h1
  clear h1
  go_enter Try.func15, Try.ntmps15
  go_wp2_with (go_at_call 33; refine (has_no _ p nl cap _ _ h0 H.out).mono ?_; rintro e w' ⟨rfl, rfl⟩)
  go_ret2
  exact ⟨rfl, rfl⟩

theorem tmod_range (n m : Int) (hm : 0 < m) : -m < n.tmod m ∧ n.tmod m < m := ⟨by
    have := Int.lt_tmod_of_pos n hm; omega, Int.tmod_lt_of_pos n hm⟩
theorem emod_of_tmod (n m : Int) (hm : 0 < m) : n % m = if n.tmod m < 0 then n.tmod m + m else n.tmod m := by
  have h := Int.tmod_eq_emod (a := n) (b := m)
  have h0 := Int.emod_nonneg n (by omega : m ≠ 0)
  have h1 := Int.emod_lt_of_pos n hm
  split at h <;> split <;> omega

/-- n, taken into 0 to m-1. -/
theorem below_any (n m : Int) (w : World) (hm : 0 < m) (hb : m ≤ 1000000) :
    Calls Try.prog 17 #[.int .i64 n, .int .i64 m] w fun e w' => e = .returned (.int .i64 (n % m)) ∧ w = w' := by
  have h1 := tmod_range n m hm
  have h2 := Lib.hid (emod_of_tmod n m hm)
  have hz : (m == 0) = false := by simp; omega
  obtain ⟨t, ht⟩ : ∃ t, t = n.tmod m := ⟨_, rfl⟩
  rw [← ht] at h1
  have h3 : -1000000 < t := by omega
  have h4 : t < 1000000 := by omega
  have H := Lib.hid ht
  clear ht
  by_cases hneg : t < 0
  · have hneg' : n.tmod m < 0 := by rw [← H.out]; exact hneg
    have hneg'' : -1000000 < n.tmod m := by rw [← H.out]; exact h3
    go_enter Try.func17, Try.ntmps17
    go_wp2
    go_ret
    exact ⟨by rw [h2.out, if_pos hneg']; rfl, rfl⟩
  · have hneg' : ¬ n.tmod m < 0 := by rw [← H.out]; exact hneg
    have hneg'' : n.tmod m < 1000000 := by rw [← H.out]; exact h4
    go_enter Try.func17, Try.ntmps17
    go_wp2
    go_ret
    exact ⟨by rw [h2.out, if_neg (by omega)]; rfl, rfl⟩
end Go.Proofs.Ytadalodjnbnjkaa

/- A net as plain data, and what memory must read as to be one: who owns which block. -/
namespace Go.Proofs.Ytadalodjnbnjkaa
open Go.RowKit Go.Conc

/-! ### the plain net -/
structure Lq where
  buf : List (List Int)
  closed : Bool
  coming : Nat

structure Ml where
  due : Nat
  lane : Nat
  msg : List Int

structure Nt where
  nl : Nat
  lane : Nat → Lq
  fates : List (Int × Int)
  sent : Nat
  now : Nat
  later : List Ml

def Lq.shut (L : Lq) : Bool := L.closed && L.coming == 0
def Lq.push (L : Lq) (m : List Int) : Lq := { L with buf := if L.buf.length < 64 then L.buf ++ [m] else L.buf }
def setL (f : Nat → Lq) (i : Nat) (L : Lq) : Nat → Lq := fun j => if j = i then L else f j
theorem setL_same (f : Nat → Lq) (i : Nat) (L : Lq) : setL f i L i = L := by simp [setL]
theorem setL_other (f : Nat → Lq) {i j : Nat} (L : Lq) (h : j ≠ i) : setL f i L j = f j := by simp [setL, h]

/-! ### who owns a block -/
inductive Tag where
  | net | arr | fates | later | lat
  | q (i : Nat) | c (i : Nat) | msg (i k : Nat)

abbrev Own := Nat → Option Tag
def Own.put (own : Own) (b : Nat) (t : Tag) : Own := fun k => if k = b then some t else own k
def Own.drop (own : Own) (b : Nat) : Own := fun k => if k = b then none else own k
theorem Own.put_same (own : Own) (b : Nat) (t : Tag) : own.put b t b = some t := by simp [Own.put]
theorem Own.put_other (own : Own) {b k : Nat} (t : Tag) (h : k ≠ b) : own.put b t k = own k := by simp [Own.put, h]
theorem Own.drop_other (own : Own) {b k : Nat} (h : k ≠ b) : own.drop b k = own k := by simp [Own.drop, h]

/-- Nothing that is there already becomes owned. -/
def Grows (n : Nat) (own own' : Own) : Prop := ∀ b, b < n → own b = none → own' b = none
theorem Grows.refl (n : Nat) (own : Own) : Grows n own own := fun _ _ h => h
theorem Grows.trans {n m : Nat} {a b c : Own} (h : Grows n a b) (k : Grows m b c) (hn : n ≤ m) : Grows n a c := fun i hi ha => k i (by omega) (h i hi ha)
theorem Grows.put {n : Nat} {own own' : Own} (h : Grows n own own') {b : Nat} (hb : n ≤ b) (t : Tag) : Grows n own (own'.put b t) :=
  fun k hk ho => by rw [Own.put_other _ _ (by omega)]; exact h k hk ho
theorem Grows.put_own {n : Nat} {own own' : Own} (h : Grows n own own') {b : Nat} {u : Tag} (hb : own b = some u) (t : Tag) : Grows n own (own'.put b t) :=
  fun k hk ho => by rw [Own.put_other _ _ (by rintro rfl; rw [hb] at ho; cases ho)]; exact h k hk ho
theorem Grows.drop {n : Nat} {own own' : Own} (h : Grows n own own') (b : Nat) : Grows n own (own'.drop b) :=
  fun k hk ho => by
    unfold Own.drop
    split
    · rfl
    · exact h k hk ho

/-- The blocks of a net may turn. -/
def Own.has (own : Own) : Nat → Prop := fun b => own b ≠ none

/-- All that is owned is there. -/
def Lies (w : World) (own : Own) : Prop := ∀ b t, own b = some t → b < w.heap.size
theorem Lies.none {w : World} {own : Own} (h : Lies w own) {b : Nat} (hb : w.heap.size ≤ b) : own b = none := by
  cases ho : own b with
  | none => rfl
  | some t => have := h b t ho; omega
theorem Lies.mono {w w' : World} {own : Own} (h : Lies w own) (hs : w.heap.size ≤ w'.heap.size) : Lies w' own := fun b t hb => Nat.lt_of_lt_of_le (h b t hb) hs
theorem Lies.put {w : World} {own : Own} (h : Lies w own) {b : Nat} (hb : b < w.heap.size) (t : Tag) : Lies w (own.put b t) := by
  intro k u hk
  by_cases e : k = b
  · omega
  · rw [Own.put_other _ _ e] at hk; exact h k u hk
theorem Lies.drop {w : World} {own : Own} (h : Lies w own) (b : Nat) : Lies w (own.drop b) := by
  intro k u hk
  unfold Own.drop at hk
  split at hk
  · cases hk
  · exact h k u hk

/-! ### memory -/
/-- Where a net lies: its block, the array of its queues, each queue, each channel. -/
structure Ga where
  net : Nat
  arr : Nat
  q : Nat → Nat
  c : Nat → Nat

/-- What waits: the channel's buffer reads so. -/
def BufIs (w : World) (own : Own) (i r : Nat) (vs : Array Value) (buf : List (List Int)) : Prop :=
  vs.size = buf.length ∧ ∀ j v l, vs[j]? = some v → buf[j]? = some l → ∃ g, own g = some (.msg i (r + j)) ∧ MsgAt w g v l

/-- Lane i reads L; sh: has its channel been closed? -/
def LaneIs (w : World) (own : Own) (A : Ga) (i : Nat) (L : Lq) (sh : Bool) : Prop :=
  own (A.q i) = some (.q i) ∧ own (A.c i) = some (.c i) ∧ w.heap[A.q i]? = some (.cells #[.chan (some (A.c i)), .bool L.closed, .int .i64 L.coming] 86 (0, 0)) ∧
    ∃ vs s r, w.heap[A.c i]? = some (.chan 64 vs sh s r false) ∧ BufIs w own i r vs L.buf

/-- What a lane's reading asks of a block. -/
def ofLane (i : Nat) (t : Tag) : Prop := t = .q i ∨ t = .c i ∨ ∃ k, t = .msg i k

theorem BufIs.keep {w w' : World} {own own' : Own} {i r : Nat} {vs : Array Value} {buf : List (List Int)} (h : BufIs w own i r vs buf)
    (hk : ∀ b k, own b = some (.msg i k) → own' b = some (.msg i k) ∧ w'.heap[b]? = w.heap[b]?) : BufIs w' own' i r vs buf :=
  ⟨h.1, fun j v l hv hl => let ⟨g, hg, hm⟩ := h.2 j v l hv hl; ⟨g, (hk g _ hg).1, hm.of_block (hk g _ hg).2⟩⟩

theorem LaneIs.keep {w w' : World} {own own' : Own} {A : Ga} {i : Nat} {L : Lq} {sh : Bool} (h : LaneIs w own A i L sh)
    (hk : ∀ b t, own b = some t → ofLane i t → own' b = some t ∧ w'.heap[b]? = w.heap[b]?) : LaneIs w' own' A i L sh := by
  obtain ⟨h1, h2, h3, vs, s, r, h4, h5⟩ := h
  have k1 := hk _ _ h1 (.inl rfl)
  have k2 := hk _ _ h2 (.inr (.inl rfl))
  exact ⟨k1.1, k2.1, k1.2.trans h3, vs, s, r, k2.2.trans h4, h5.keep fun b k hb => hk b _ hb (.inr (.inr ⟨k, rfl⟩))⟩

def fateCells (F : List (Int × Int)) : List Value := F.flatMap fun f => [.int .i64 f.1, .int .i64 f.2]
def FatesIs (w : World) (own : Own) (v : Value) (F : List (Int × Int)) : Prop :=
  w.ownsRow 0 63 2 v F.length (fateCells F) ∧ ∀ b, v.ownBlock = some b → own b = some .fates

/-- A message on its way, with the value that holds it. -/
def latCells (X : List (Ml × Value)) : List Value := X.flatMap fun x => [.int .i64 x.1.due, .int .i64 x.1.lane, x.2]
def LatOk (w : World) (own : Own) (X : List (Ml × Value)) : Prop := ∀ x ∈ X, ∃ g, own g = some .lat ∧ MsgAt w g x.2 x.1.msg
def LaterIs (w : World) (own : Own) (v : Value) (L : List Ml) : Prop :=
  ∃ X : List (Ml × Value), X.map Prod.fst = L ∧ w.ownsRow 0 115 3 v X.length (latCells X) ∧ (∀ b, v.ownBlock = some b → own b = some .later) ∧ LatOk w own X

theorem ownsRow_keep {w w' : World} {base : Nat} {e : TypeId} {size n : Nat} {v : Value} {xs : List Value} (h : w.ownsRow base e size v n xs)
    (hk : ∀ b, v.ownBlock = some b → w'.heap[b]? = w.heap[b]?) : w'.ownsRow base e size v n xs := by
  refine ⟨h.1, ?_⟩
  rcases h.2 with hn | ⟨g, cap, cur, rfl, hb, hg, rest⟩
  · exact .inl hn
  · exact .inr ⟨g, cap, cur, rfl, hb, (hk g rfl).trans hg, rest⟩

theorem FatesIs.keep {w w' : World} {own own' : Own} {v : Value} {F : List (Int × Int)} (h : FatesIs w own v F)
    (hk : ∀ b, own b = some .fates → own' b = some .fates ∧ w'.heap[b]? = w.heap[b]?) : FatesIs w' own' v F :=
  ⟨ownsRow_keep h.1 fun b hb => (hk b (h.2 b hb)).2, fun b hb => (hk b (h.2 b hb)).1⟩
theorem LatOk.keep {w w' : World} {own own' : Own} {X : List (Ml × Value)} (h : LatOk w own X)
    (hk : ∀ b, own b = some .lat → own' b = some .lat ∧ w'.heap[b]? = w.heap[b]?) : LatOk w' own' X :=
  fun x hx => let ⟨g, hg, hm⟩ := h x hx; ⟨g, (hk g hg).1, hm.of_block (hk g hg).2⟩
theorem LaterIs.keep {w w' : World} {own own' : Own} {v : Value} {L : List Ml} (h : LaterIs w own v L)
    (hk : ∀ b, own b = some .later ∨ own b = some .lat → own' b = own b ∧ w'.heap[b]? = w.heap[b]?) : LaterIs w' own' v L := by
  obtain ⟨X, h1, h2, h3, h4⟩ := h
  refine ⟨X, h1, ownsRow_keep h2 fun b hb => (hk b (.inl (h3 b hb))).2, fun b hb => ?_, h4.keep fun b hb => ?_⟩
  · rw [(hk b (.inl (h3 b hb))).1]; exact h3 b hb
  · exact ⟨by rw [(hk b (.inr hb)).1]; exact hb, (hk b (.inr hb)).2⟩

/-- The array of the queues. -/
def ArrIs (w : World) (own : Own) (A : Ga) (nl cap : Nat) : Prop :=
  own A.arr = some .arr ∧ ∃ cur, w.heap[A.arr]? = some (.cells cur 83 (0, 0)) ∧ nl ≤ cap ∧ ∀ i, i < nl → cur[i]? = some (.pointer (some ⟨A.q i, 0, none⟩))
theorem ArrIs.keep {w w' : World} {own own' : Own} {A : Ga} {nl cap : Nat} (h : ArrIs w own A nl cap)
    (hk : own A.arr = some .arr → own' A.arr = some .arr ∧ w'.heap[A.arr]? = w.heap[A.arr]?) : ArrIs w' own' A nl cap := by
  obtain ⟨h1, cur, h2, h3⟩ := h
  exact ⟨(hk h1).1, cur, (hk h1).2.trans h2, h3⟩
theorem ArrIs.cell {w : World} {own : Own} {A : Ga} {nl cap : Nat} (h : ArrIs w own A nl cap) {i : Nat} (hi : i < nl) : w.cell? ⟨A.arr, i, none⟩ = some (.pointer (some ⟨A.q i, 0, none⟩)) := by
  obtain ⟨_, cur, h2, _, h3⟩ := h
  exact cell_of_heap h2 i (h3 i hi)

/-- The net's own block. -/
def HeadIs (w : World) (own : Own) (A : Ga) (nl cap : Nat) (fv : Value) (sent now : Nat) (lv : Value) : Prop :=
  own A.net = some .net ∧ w.heap[A.net]? = some (.cells #[.slice (some ⟨A.arr, 0, none⟩) nl cap, fv, .int .i64 sent, .int .i64 now, lv] 82 (0, 0))

/-- MEMORY READS AS THE NET N at A. -/
def NetIs (w : World) (own : Own) (A : Ga) (N : Nt) : Prop :=
  Lies w own ∧ ∃ cap fv lv, HeadIs w own A N.nl cap fv N.sent N.now lv ∧ ArrIs w own A N.nl cap ∧ FatesIs w own fv N.fates ∧ LaterIs w own lv N.later ∧
    ∀ i, i < N.nl → LaneIs w own A i (N.lane i) (N.lane i).shut

/-- Another net is as it was. -/
theorem NetIs.apart {w w' : World} {own own₂ : Own} {A : Ga} {N : Nt} (h : NetIs w own A N) (hm : Mv own₂.has w w') (hd : ∀ b, own b = none ∨ own₂ b = none) : NetIs w' own A N := by
  obtain ⟨h0, cap, fv, lv, h1, h2, h3, h4, h5⟩ := h
  have key : ∀ b t, own b = some t → w'.heap[b]? = w.heap[b]? := fun b t hb => hm.block b (h0 b t hb) (fun hh => by
    rcases hd b with h | h
    · rw [h] at hb; cases hb
    · exact hh h)
  exact ⟨h0.mono hm.size, cap, fv, lv, ⟨h1.1, (key _ _ h1.1).trans h1.2⟩, h2.keep (fun ho => ⟨ho, key _ _ ho⟩), h3.keep (fun b hb => ⟨hb, key _ _ hb⟩),
    h4.keep (fun b hb => ⟨rfl, by rcases hb with hb | hb <;> exact key _ _ hb⟩), fun i hi => (h5 i hi).keep fun b t hb _ => ⟨hb, key _ _ hb⟩⟩
end Go.Proofs.Ytadalodjnbnjkaa
