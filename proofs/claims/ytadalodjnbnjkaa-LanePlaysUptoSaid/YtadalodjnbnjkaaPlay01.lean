/- Small laws, over any program: a select among the operations of a function that one goroutine runs, for walks by regions ('wpN': the walk of a frame of the ordinary kind). -/
import Derived.WalkKit
import Derived.Conc.LoneCalls
import Derived.Conc.LoneSelectN
namespace Go.Proofs.Ytadalodjnbnjkaa
open Go.Conc

/-- What a piece of code does in a frame of the ordinary kind. -/
def wpN (P : Program) (c : Code) (Q : Exit → Act → World → Prop) (a : Act) (w : World) : Prop :=
  ∀ (b : Frame) (k : List Item) (cs : List Frame), b.kind = .normal →
    ∃ e a' w', Q e a' w' ∧ Arrives P (lone (b.at a (.code c :: k)) cs w) b k cs e a' w'

section
variable {P : Program} {Q : Exit → Act → World → Prop} {a : Act} {w : World}

theorem wpN_of_wp {c : Code} (h : c.wp P Q a w) : wpN P c Q a w := fun b k cs _ => h b k cs

theorem wpN_mono {c : Code} {Q' : Exit → Act → World → Prop} (h : wpN P c Q a w) (hq : ∀ e a w, Q e a w → Q' e a w) : wpN P c Q' a w :=
  fun b k cs hb => let ⟨e, a', w', q, r⟩ := h b k cs hb; ⟨e, a', w', hq _ _ _ q, r⟩

theorem wpN_seq {x y : Code} (h : wpN P x (Exit.then (wpN P y Q) Q) a w) : wpN P (Code.seq x y) Q a w := by
  intro b k cs hb
  obtain ⟨e, a₁, w₁, hq, harr⟩ := h b (.code y :: k) cs hb
  cases e with
  | normal =>
    obtain ⟨e₂, a₂, w₂, hq₂, harr₂⟩ := hq b k cs hb
    exact ⟨e₂, a₂, w₂, hq₂, .of_steps (.head step_seq harr) harr₂⟩
  | exit id => exact ⟨_, a₁, w₁, hq, .of_steps (.one step_seq) (.pass (x := .code y) rfl (fun _ _ => .inl (by simp)) harr)⟩
  | goto l => exact ⟨_, a₁, w₁, hq, .of_steps (.one step_seq) (.pass (x := .code y) rfl (fun _ _ => .inl (by simp)) harr)⟩
  | ret => exact ⟨_, a₁, w₁, hq, .of_steps (.one step_seq) (.pass (x := .code y) rfl (fun _ _ => .inl (by simp)) harr)⟩
  | panic ch => exact ⟨_, a₁, w₁, hq, .of_steps (.one step_seq) (.pass (x := .code y) rfl (fun _ _ => .inl (by simp)) harr)⟩
  | outgrown => exact ⟨_, a₁, w₁, hq, .of_steps (.one step_seq) (.pass (x := .code y) rfl (fun _ _ => .inl (by simp)) harr)⟩

theorem wpN_seq_k {x y : Code} (h : ∀ K : Act → World → Prop, (∀ a w, wpN P y Q a w → K a w) → x.wp P (Exit.then K Q) a w) :
    wpN P (Code.seq x y) Q a w := wpN_seq (wpN_of_wp (h _ fun _ _ h => h))

theorem wpN_cond {c : Operand} {x y : Code} {t : Bool} (hc : a.eval c = .bool t) (h : wpN P (if t then x else y) Q a w) :
    wpN P (Code.cond c x y) Q a w :=
  fun b k cs hb => let ⟨e, a', w', q, r⟩ := h b k cs hb; ⟨e, a', w', q, .of_steps (.one (step_cond hc)) r⟩

theorem wpN_block {id : Nat} {c : Code} (h : wpN P c (Exit.inBlock id Q) a w) : wpN P (Code.block id c) Q a w := by
  intro b k cs hb
  obtain ⟨e, a₁, w₁, hq, harr⟩ := h b (.inBlock id :: k) cs hb
  cases e with
  | normal => exact ⟨.normal, a₁, w₁, hq, .head step_block (Steps.trans harr (.one step_inBlock))⟩
  | exit id' =>
    by_cases hid : id' = id
    · simp only [Exit.inBlock, hid, if_true] at hq
      exact ⟨.normal, a₁, w₁, hq, .head step_block (harr k (by simp [exitTo, hid]))⟩
    · simp only [Exit.inBlock, hid, if_false] at hq
      refine ⟨.exit id', a₁, w₁, hq, fun k' hk => .head step_block (harr k' ?_)⟩
      have : (id == id') = false := by simp; exact fun h => hid h.symm
      simp [exitTo, this, hk]
  | goto l => exact ⟨_, a₁, w₁, hq, fun k' hk => .head step_block (harr k' (by simp [gotoIn, hk]))⟩
  | ret => exact ⟨_, a₁, w₁, hq, .of_steps (.one step_block) harr⟩
  | panic ch => exact ⟨_, a₁, w₁, hq, .of_steps (.one step_block) harr⟩
  | outgrown => exact ⟨_, a₁, w₁, hq, .of_steps (b := b) (k := k) (cs := cs) (e := .outgrown) (.one step_block) harr⟩

theorem wpN_loop {c : Code} (I : Act → World → Prop) (μ : Act → World → Nat) (h₀ : I a w)
    (round : ∀ a w, I a w → wpN P c (Exit.then (fun a' w' => I a' w' ∧ μ a' w' < μ a w) Q) a w) : wpN P (Code.loop c) Q a w := by
  intro b k cs hb
  have key : ∀ n a w, μ a w = n → I a w →
      ∃ e a' w', Q e a' w' ∧ Arrives P (lone (b.at a (.code c :: .inLoop c :: k)) cs w) b k cs e a' w' := by
    intro n
    induction n using Nat.strongRecOn with
    | _ n ih =>
      intro a w hn hI
      obtain ⟨e, a₁, w₁, hq, harr⟩ := round a w hI b (.inLoop c :: k) cs hb
      cases e with
      | normal =>
        obtain ⟨hI₁, hlt⟩ := hq
        obtain ⟨e₂, a₂, w₂, hq₂, harr₂⟩ := ih (μ a₁ w₁) (hn ▸ hlt) a₁ w₁ rfl hI₁
        exact ⟨e₂, a₂, w₂, hq₂, .of_steps (Steps.trans harr (.one step_inLoop)) harr₂⟩
      | exit id => exact ⟨_, a₁, w₁, hq, .pass (x := .inLoop c) rfl (fun _ _ => .inl (by simp)) harr⟩
      | goto l => exact ⟨_, a₁, w₁, hq, .pass (x := .inLoop c) rfl (fun _ _ => .inl (by simp)) harr⟩
      | ret => exact ⟨_, a₁, w₁, hq, .pass (x := .inLoop c) rfl (fun _ _ => .inl (by simp)) harr⟩
      | panic ch => exact ⟨_, a₁, w₁, hq, .pass (x := .inLoop c) rfl (fun _ _ => .inl (by simp)) harr⟩
      | outgrown => exact ⟨_, a₁, w₁, hq, .pass (x := .inLoop c) rfl (fun _ _ => .inl (by simp)) harr⟩
  obtain ⟨e, a', w', hq, harr⟩ := key _ a w rfl h₀
  exact ⟨e, a', w', hq, .of_steps (.one step_loop) harr⟩

theorem calls_of_wpN {f : FuncId} {fn : Func} {c : Code} {args : Array Value} {R : Ending → World → Prop}
    (hf : P.funcs[f]? = some fn) (hb : fn.body = some c)
    (h : wpN P c (bodyPost P fn R) { tmps := args ++ Array.replicate (fn.ntmps - args.size) undef, defers := [] } w) :
    Calls P f args w R := by
  intro cs
  let b : Frame := { (default : Frame) with fn := f, kind := .normal }
  have henter : Frame.enter P f args .normal =
      b.at { tmps := args ++ Array.replicate (fn.ntmps - args.size) undef, defers := [] } [.code c] := by
    simp [Frame.enter, Frame.at, hf, hb, b]
  obtain ⟨e, a', w', hq, harr⟩ := h b [] cs rfl
  rw [← henter] at harr
  cases e with
  | normal =>
    obtain ⟨hd, v, hr, hR⟩ := hq
    exact ⟨.returned v, w', _, hR, Steps.trans harr (.one step_end), rfl, rfl, hd, rfl, fn, hf, hr⟩
  | ret =>
    obtain ⟨hd, v, hr, hR⟩ := hq
    obtain ⟨todo, hs⟩ := harr
    exact ⟨.returned v, w', _, hR, hs, rfl, rfl, hd, rfl, fn, hf, hr⟩
  | panic chain =>
    obtain ⟨hd, hR⟩ := hq
    obtain ⟨todo, hs⟩ := harr
    exact ⟨.panicked chain, w', _, hR, hs, rfl, rfl, hd, fn, hf⟩
  | exit id => exact hq.elim
  | goto l => exact hq.elim
  | outgrown => exact ⟨.outgrown, w', b, hq, harr.resolve_left (by simp [b]), rfl, trivial⟩

/-- A region whose first operation is one step of the machine's, and goes on. -/
theorem wpN_region_first {id : Nat} {o : Oper} {l : List Oper} {a' : Act} {w' : World}
    (hadv : ∀ (b : Frame) (k : List Item) (cs : List Frame), b.kind = .normal →
      step P (lone (b.at a (.inRegion (o :: l).toArray (0 :: List.range' 1 l.length) :: k)) cs w) = .next (lone (b.at a' (.inRegion (o :: l).toArray (List.range' 1 l.length) :: k)) cs w'))
    (h : wpList P (o :: l).toArray Q l a' w') : wpN P (Code.region id (o :: l).toArray false) Q a w := by
  intro b k cs hb
  have hlist := wpOps_eq_wpList (P := P) (Q := Q) (ops := (o :: l).toArray) l 1 (fun j => by simp [Nat.add_comm 1 j])
  rw [← hlist] at h
  obtain ⟨e, a₂, w₂, hq, harr⟩ := wp_ops _ a' w' h b k cs
  refine ⟨e, a₂, w₂, hq, .of_steps (.one step_region) ?_⟩
  have hr : List.range (o :: l).toArray.size = 0 :: List.range' 1 l.length := by
    rw [List.range_eq_range', List.size_toArray, List.length_cons, List.range'_succ]
  rw [hr]
  exact .of_steps (.one (hadv b k cs hb)) harr

section
variable {id : Nat} {o : Oper} {l : List Oper} {cases : Array CommCase} {blocking : Bool} {k c cap s r : Nat} {buf : Array Value} {closed tm : Bool} {v z : Value}

theorem wpN_select_recv_buf (hg : o.guard = none) (hr : (execOp a.eval o).run P w = .ok (.comm cases blocking .select) w) (hk : cases[k]? = some (rcase c z))
    (ho : ∀ (m : Nat) (c' : CommCase), m ≠ k → cases[m]? = some c' → NoWay w c') (hc : w.heap[c]? = some (.chan cap buf closed s r tm)) (hsome : 0 < buf.size)
    (h : wpList P (o :: l).toArray Q l (a.put o.dst (commResult cases .select k (buf.getD 0 undef) true)) (w.setChan c cap (buf.extract 1 buf.size) closed s (r + 1) tm)) :
    wpN P (Code.region id (o :: l).toArray false) Q a w :=
  wpN_region_first (fun b K cs hb => by
    have hs := stepG_comm (P := P) (main := true) (b := b) (k := K) (cs := cs) (rest := List.range' 1 l.length) (ops := (o :: l).toArray) (i := 0) (by simp) (by simp [Region.wanted, hg]) (by simp [hb]) hr
    have := step_lone_sel_recv_buf hs hk ho hc hsome
    rw [Frame.finish_at] at this
    simpa [lone, solo, G] using this) h

theorem wpN_select_recv_shut (hg : o.guard = none) (hr : (execOp a.eval o).run P w = .ok (.comm cases blocking .select) w) (hk : cases[k]? = some (rcase c z))
    (ho : ∀ (m : Nat) (c' : CommCase), m ≠ k → cases[m]? = some c' → NoWay w c') (hc : w.heap[c]? = some (.chan cap #[] true s r tm))
    (h : wpList P (o :: l).toArray Q l (a.put o.dst (commResult cases .select k z false)) w) :
    wpN P (Code.region id (o :: l).toArray false) Q a w :=
  wpN_region_first (fun b K cs hb => by
    have hs := stepG_comm (P := P) (main := true) (b := b) (k := K) (cs := cs) (rest := List.range' 1 l.length) (ops := (o :: l).toArray) (i := 0) (by simp) (by simp [Region.wanted, hg]) (by simp [hb]) hr
    have := step_lone_sel_recv_shut hs hk ho hc
    rw [Frame.finish_at] at this
    simpa [lone, solo, G] using this) h

theorem wpN_select_send_room (hg : o.guard = none) (hr : (execOp a.eval o).run P w = .ok (.comm cases blocking .select) w) (hk : cases[k]? = some (scase c v z))
    (ho : ∀ (m : Nat) (c' : CommCase), m ≠ k → cases[m]? = some c' → NoWay w c') (hc : w.heap[c]? = some (.chan cap buf false s r tm)) (hroom : buf.size < cap)
    (h : wpList P (o :: l).toArray Q l (a.put o.dst (commResult cases .select k undef false)) (w.setChan c cap (buf.push v) false (s + 1) r tm)) :
    wpN P (Code.region id (o :: l).toArray false) Q a w :=
  wpN_region_first (fun b K cs hb => by
    have hs := stepG_comm (P := P) (main := true) (b := b) (k := K) (cs := cs) (rest := List.range' 1 l.length) (ops := (o :: l).toArray) (i := 0) (by simp) (by simp [Region.wanted, hg]) (by simp [hb]) hr
    have := step_lone_sel_send_room hs hk ho hc hroom
    rw [Frame.finish_at] at this
    simpa [lone, solo, G] using this) h

theorem wpN_select_default (hg : o.guard = none) (hr : (execOp a.eval o).run P w = .ok (.comm cases false .select) w)
    (ho : ∀ cc ∈ cases, NoWay w cc)
    (h : wpList P (o :: l).toArray Q l (a.put o.dst (commResult cases .select (-1) undef false)) w) :
    wpN P (Code.region id (o :: l).toArray false) Q a w :=
  wpN_region_first (fun b K cs hb => by
    have hs := stepG_comm (P := P) (main := true) (b := b) (k := K) (cs := cs) (rest := List.range' 1 l.length) (ops := (o :: l).toArray) (i := 0) (by simp) (by simp [Region.wanted, hg]) (by simp [hb]) hr
    have := step_lone_sel_default hs ho
    rw [Frame.finish_at] at this
    simpa [lone, solo, G] using this) h
end
end
end Go.Proofs.Ytadalodjnbnjkaa
