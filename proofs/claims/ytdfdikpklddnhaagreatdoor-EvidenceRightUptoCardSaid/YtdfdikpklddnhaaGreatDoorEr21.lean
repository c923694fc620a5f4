/- A map from spans to hashes that the call has made. -/
import Derived.Test.YtdfdikpklddnhaaGreatDoorEr20
import Derived.Maps.Own
import Derived.Maps.Views
import Derived.DeepKeys4
namespace Go.Proofs.YtdfdikpklddnhaaGreatDoor
open Go.RowKit
set_option linter.unusedSimpArgs false

theorem byteV_inj {a b : UInt8} (h : byteV a = byteV b) : a = b := by
  unfold byteV at h
  simp only [Value.int.injEq, true_and] at h
  exact UInt8.toNat_inj.1 (by omega)
theorem hashV_inj {a b : Bs} (h : hashV a = hashV b) : a = b := by
  unfold hashV at h
  simp only [Value.agg.injEq] at h
  have h2 : a.map byteV = b.map byteV := by simpa using congrArg Array.toList h
  clear h
  induction a generalizing b with
  | nil => cases b with
    | nil => rfl
    | cons y ys => simp at h2
  | cons x xs ih => cases b with
    | nil => simp at h2
    | cons y ys =>
      simp only [List.map_cons, List.cons.injEq] at h2
      rw [byteV_inj h2.1, ih h2.2]
open Classical in
/-- How a hash in the map reads. -/
noncomputable def RH (v : Value) : Option (DataW Unit × List MemPlace) :=
  if h : ∃ l : Bs, l.length = 32 ∧ v = hashV l then some (.lit (.string h.choose), []) else none
theorem RH_hash (l : Bs) (hl : l.length = 32) : RH (hashV l) = some (.lit (.string l), []) := by
  have h : ∃ m : Bs, m.length = 32 ∧ hashV l = hashV m := ⟨l, hl, rfl⟩
  unfold RH
  rw [dif_pos h, ← hashV_inj h.choose_spec.2]
theorem RH_inv {v : Value} {d : DataW Unit} {ps : List MemPlace} (h : RH v = some (d, ps)) : ∃ l : Bs, l.length = 32 ∧ v = hashV l ∧ d = .lit (.string l) := by
  unfold RH at h
  split at h
  · rename_i hx
    cases h
    exact ⟨hx.choose, hx.choose_spec.1, hx.choose_spec.2, rfl⟩
  · cases h
theorem laidOut : laidOutB Tryz.prog = true := by kernel_rfl
theorem row170 : (170 : TypeId) < Tryz.prog.types.size := of_decide_eq_true (by kernel_rfl)
theorem wide170 : (match Tryz.prog.underlying 170 with | some (.array _ _) | some (.struct _) => true | _ => false) = true := by kernel_rfl
theorem keyAt170 : Tryz.prog.keyTypeAt 2 170 = true := by kernel_rfl
set_option maxRecDepth 100000 in
theorem spanLaw : Maps.Keyed Tryz.prog 170 := Maps.Keyed.of_law (deep_law_laid laidOut (m := 2) (by omega) row170 keyAt170 wide170)
theorem keyTop : ∃ n, Tryz.prog.types.size + 1 = n + 2 := ⟨464, by kernel_rfl⟩
theorem keyType170 : Tryz.prog.keyType 170 = true := by kernel_rfl
theorem cellsOf170 : Tryz.prog.cellsOf 170 = 2 := by kernel_rfl
theorem cellsOf2 : Tryz.prog.cellsOf 2 = 1 := by kernel_rfl
theorem wf_i64 (a : Nat) (h : a ≤ 281474976710656) : (Lit.int .i64 (a : Int)).wf = true := by
  have h1 : IntKind.i64.min = -9223372036854775808 := by decide
  have h2 : IntKind.i64.max = 9223372036854775807 := by decide
  show (decide (IntKind.i64.min ≤ (a : Int)) && decide ((a : Int) ≤ IntKind.i64.max)) = true
  rw [h1, h2, Bool.and_eq_true]
  exact ⟨decide_eq_true (by omega), decide_eq_true (by omega)⟩
/-- A span as a value. -/
def spanV (a b : Nat) : Value := .agg #[.int .i64 a, .int .i64 b]
/-- .. as a key. -/
def spanK (a b : Nat) : Lit := .string (keyBytes [.int .i64 a, .int .i64 b])
theorem keyOf_span (a b : Nat) (ha : a ≤ 281474976710656) (hb : b ≤ 281474976710656) : keyOf Tryz.prog 170 (spanV a b) = some (spanK a b) := by
  have wa := wf_i64 a ha
  have wb := wf_i64 b hb
  obtain ⟨n, hn⟩ := keyTop
  unfold keyOf spanV spanK
  rw [Tryz.underlying170, hn]
  simp [keyType170, Value.formed, Tryz.underlying170, cellsOf170, Value.cells, Program.keyLits, Tryz.underlying2, cellsOf2, wa, wb]
theorem spanK_inj {a b c d : Nat} (ha : a ≤ 281474976710656) (hb : b ≤ 281474976710656) (hc : c ≤ 281474976710656) (hd : d ≤ 281474976710656) (h : spanK a b = spanK c d) : a = c ∧ b = d := by
  have e := spanLaw.inj (keyOf_span a b ha hb) (h ▸ keyOf_span c d hc hd)
  unfold spanV at e
  simp only [Value.agg.injEq] at e
  have e2 := congrArg Array.toList e
  simp at e2
  omega
/-- Block b is a map from spans to hashes; what is not there reads as the zero hash. -/
def MapIs (w : World) (b n : Nat) (f : Nat → Nat → Bs) : Prop :=
  ∃ D : DataW Unit, (∃ es, D = .map es) ∧ w.ownsMap Tryz.prog 170 RH b n D ∧ ∀ x y, x ≤ 281474976710656 → y ≤ 281474976710656 → D.atKey (spanK x y) (.lit (.string zero32)) = .lit (.string (f x y))
theorem MapIs.lt {w : World} {b n : Nat} {f : Nat → Nat → Bs} (h : MapIs w b n f) : b < w.heap.size := by
  obtain ⟨D, _, h, _⟩ := h
  exact h.lt
theorem MapIs.mv {F : Nat → Prop} {w w' : World} {b n : Nat} {f : Nat → Nat → Bs} (h : MapIs w b n f) (hm : Mv F w w') (hF : ¬ F b) : MapIs w' b n f := by
  have hlt := h.lt
  obtain ⟨D, h0, ⟨es, c, h1, h2⟩, h3⟩ := h
  exact ⟨D, h0, ⟨es, c, (hm.block b hlt hF).trans h1, h2⟩, h3⟩
theorem MapIs.made (w : World) : MapIs (w.alloc (.map #[] 0)) w.heap.size 0 (fun _ _ => zero32) :=
  ⟨.map [], ⟨_, rfl⟩, World.ownsMap_made w _ _ _, fun _ _ _ _ => rfl⟩
/-- The map with one more. -/
def mput (f : Nat → Nat → Bs) (a b : Nat) (h : Bs) : Nat → Nat → Bs := fun x y => if x = a ∧ y = b then h else f x y
theorem MapIs.put {w' : World} {b n : Nat} {f : Nat → Nat → Bs} {D : DataW Unit} (hD : ∃ es, D = .map es) (hf : ∀ x y, x ≤ 281474976710656 → y ≤ 281474976710656 → D.atKey (spanK x y) (.lit (.string zero32)) = .lit (.string (f x y)))
    (p q : Nat) (hp : p ≤ 281474976710656) (hq : q ≤ 281474976710656) (l : Bs) (h : w'.ownsMap Tryz.prog 170 RH b n (D.put (spanK p q) (.lit (.string l)))) : MapIs w' b n (mput f p q l) := by
  have hk := spanLaw.key (keyOf_span p q hp hq)
  obtain ⟨es, rfl⟩ := hD
  refine ⟨_, ⟨_, rfl⟩, h, fun x y hx hy => ?_⟩
  unfold mput
  by_cases e : x = p ∧ y = q
  · obtain ⟨rfl, rfl⟩ := e
    rw [if_pos ⟨rfl, rfl⟩]
    exact Maps.atKey_put_same (D := .map es) ⟨es, rfl⟩ hk _ _
  · rw [if_neg e, ← hf x y hx hy]
    exact Maps.atKey_put_other (D := .map es) (fun h => e (spanK_inj hx hy hp hq h)) _ _
theorem MapIs.update {w : World} {b n : Nat} {f : Nat → Nat → Bs} (h : MapIs w b n f) (hn : n < maxLen) (p q : Nat) (hp : p ≤ 281474976710656) (hq : q ≤ 281474976710656) (l : Bs) (hl : l.length = 32) :
    ∃ w', (Instr.mapUpdate 178 (.map (some b)) (spanV p q) (hashV l)).run Tryz.prog w = .ok () w' ∧ MapIs w' b (n + 1) (mput f p q l) ∧ w.grownBy w' (some b) := by
  obtain ⟨D, hD, ho, hf⟩ := h
  obtain ⟨w', h1, h2, h3⟩ := ho.update spanLaw Tryz.underlying178 hn (keyOf_span p q hp hq) (RH_hash l hl)
  exact ⟨w', h1, MapIs.put hD hf p q hp hq l h2, h3⟩
theorem wp_insert {o : Oper} {a : Act} {w : World} {K : Act → World → Prop} {Q : Exit → Act → World → Prop} (m x v : Operand) (ho : o.op = .insert 178 m x v ∨ o.op = .mapUpdate 178 m x v) {b n : Nat} {f : Nat → Nat → Bs} (p q : Nat) (l : Bs)
    (hm : a.eval m = .map (some b)) (hx : a.eval x = spanV p q) (hv : a.eval v = hashV l) (h : MapIs w b n f) (hn : n < maxLen) (hp : p ≤ 281474976710656) (hq : q ≤ 281474976710656) (hl : l.length = 32)
    (hK : ∀ w', MapIs w' b (n + 1) (mput f p q l) → w.grownBy w' (some b) → K (a.put o.dst undef) w') : Oper.wp Tryz.prog o a w K Q := by
  obtain ⟨w', h1, h2, h3⟩ := h.update hn p q hp hq l hl
  unfold Oper.wp
  rcases ho with ho | ho <;> simp [execOp, ho, hm, hx, hv, h1, Result.andThen] <;> exact hK w' h2 h3
end Go.Proofs.YtdfdikpklddnhaaGreatDoor

/- A tree proof's climb, plain. -/
namespace Go.Proofs.YtdfdikpklddnhaaGreatDoor
open Go.RowKit

/-- The way of a tree proof without its seed. -/
def wayUp (n m : Nat) : List Step := (wayDown (treeStop m) (treeLeft m) 0 n).1.reverse
theorem wayTree_zero (n m : Nat) (h : (treeSeed n m).1 = 0) : wayTree n m = wayUp n m := by
  unfold wayTree wayUp; rw [if_neg (by omega), List.nil_append]
theorem wayTree_pos (n m : Nat) (h : 0 < (treeSeed n m).1) : wayTree n m = ⟨(treeSeed n m).1, (treeSeed n m).2, false⟩ :: wayUp n m := by
  unfold wayTree wayUp; rw [if_pos h]; rfl
/-- What climbs: the new node, the old one, the span that they have reached. -/
structure TSt where
  fresh : Nd
  old : Nd
  sa : Nat
  sb : Nat
def tStep (k : Int) (st : TSt) (s : Step) (h : Bs) : TSt :=
  if s.right = true then ⟨.joined st.fresh (.given h) (nodeP k st.fresh.sum h), st.old, st.sa, s.b⟩
  else ⟨.joined (.given h) st.fresh (nodeP k h st.fresh.sum), .joined (.given h) st.old (nodeP k h st.old.sum), s.a, st.sb⟩
def tRun (k : Int) (st : TSt) (way : List Step) (p : List Bs) : Nat → TSt
  | 0 => st
  | j + 1 => tStep k (tRun k st way p j) (way.getD j ⟨0, 0, false⟩) (p.getD j [])
/-- What the map holds behind j steps. -/
def tMap (k : Int) (st : TSt) (way : List Step) (p : List Bs) : Nat → Nat → Nat → Bs
  | 0 => mput (fun _ _ => zero32) st.sa st.sb st.fresh.sum
  | j + 1 => mput (tMap k st way p j) (tRun k st way p (j + 1)).sa (tRun k st way p (j + 1)).sb (tRun k st way p (j + 1)).fresh.sum
def tBeg (n m : Nat) (old : Bs) (p : List Bs) : Bs := if 0 < (treeSeed n m).1 then p.getD 0 [] else old
def tRest (n m : Nat) (p : List Bs) : List Bs := if 0 < (treeSeed n m).1 then p.drop 1 else p
def tStart (n m : Nat) (old : Bs) (p : List Bs) : TSt := ⟨.given (tBeg n m old p), .given (tBeg n m old p), (treeSeed n m).1, (treeSeed n m).2⟩
/-- Where a tree proof's climb ends. -/
def tEnd (k : Int) (n m : Nat) (old : Bs) (p : List Bs) : TSt := tRun k (tStart n m old p) (wayUp n m) (tRest n m p) (wayUp n m).length
def tHashes (k : Int) (n m : Nat) (old : Bs) (p : List Bs) : Nat → Nat → Bs := tMap k (tStart n m old p) (wayUp n m) (tRest n m p) (wayUp n m).length
theorem wayDown_bound (stop : Nat → Nat → Bool) (left : Nat → Bool) (a b : Nat) : ∀ B, a ≤ B → b ≤ B → (∀ s ∈ (wayDown stop left a b).1, s.a ≤ B ∧ s.b ≤ B) ∧ (wayDown stop left a b).2.1 ≤ B ∧ (wayDown stop left a b).2.2 ≤ B := by
  intro B ha hb
  by_cases h1 : stop a b = true ∨ b < a + 2
  · rw [wayDown, if_pos h1]
    exact ⟨fun _ h => (by cases h), ha, hb⟩
  · have hc := cutN_in a b (by omega)
    rw [wayDown, if_neg h1]
    by_cases h4 : left (cutN a b) = true
    · rw [if_pos h4]
      obtain ⟨i1, i2, i3⟩ := wayDown_bound stop left a (cutN a b) B ha (by omega)
      refine ⟨fun s hs => ?_, i2, i3⟩
      rcases List.mem_cons.1 hs with rfl | hs
      · exact ⟨by show cutN a b ≤ B; omega, hb⟩
      · exact i1 s hs
    · rw [if_neg h4]
      obtain ⟨i1, i2, i3⟩ := wayDown_bound stop left (cutN a b) b B (by omega) hb
      refine ⟨fun s hs => ?_, i2, i3⟩
      rcases List.mem_cons.1 hs with rfl | hs
      · exact ⟨ha, by show cutN a b ≤ B; omega⟩
      · exact i1 s hs
termination_by b - a
theorem tRun_len (k : Int) (st : TSt) (way : List Step) (p : List Bs) (h1 : st.fresh.sum.length = 32) (h2 : st.old.sum.length = 32) : ∀ j, (tRun k st way p j).fresh.sum.length = 32 ∧ (tRun k st way p j).old.sum.length = 32
  | 0 => ⟨h1, h2⟩
  | j + 1 => by
    show (tStep k (tRun k st way p j) _ _).fresh.sum.length = 32 ∧ (tStep k (tRun k st way p j) _ _).old.sum.length = 32
    unfold tStep
    split
    · exact ⟨nodeP_length _ _ _, (tRun_len k st way p h1 h2 j).2⟩
    · exact ⟨nodeP_length _ _ _, nodeP_length _ _ _⟩
theorem tRun_bound (k : Int) (st : TSt) (way : List Step) (p : List Bs) (B : Nat) (h1 : st.sa ≤ B) (h2 : st.sb ≤ B) (hw : ∀ s ∈ way, s.a ≤ B ∧ s.b ≤ B) : ∀ j, j ≤ way.length → (tRun k st way p j).sa ≤ B ∧ (tRun k st way p j).sb ≤ B
  | 0, _ => ⟨h1, h2⟩
  | j + 1, hj => by
    have ih := tRun_bound k st way p B h1 h2 hw j (by omega)
    have hs : way.getD j ⟨0, 0, false⟩ ∈ way := by
      rw [List.getD_eq_getElem?_getD, List.getElem?_eq_getElem (by omega)]
      exact List.getElem_mem _
    have hb := hw _ hs
    show (tStep k (tRun k st way p j) _ _).sa ≤ B ∧ (tStep k (tRun k st way p j) _ _).sb ≤ B
    unfold tStep
    split
    · exact ⟨ih.1, hb.2⟩
    · exact ⟨hb.1, ih.2⟩
theorem wayUp_len (n m : Nat) (hn : n ≤ 281474976710656) : (wayUp n m).length ≤ 48 := by
  unfold wayUp
  rw [List.length_reverse]
  exact wayDown_len _ _ 48 0 n hn (by omega)
/-- Steps that lie in memory. -/
def WayIn (w : World) (v : Value) (way : List Step) : Prop := ∃ a c, v = .slice a way.length c ∧ way.length ≤ c ∧ ∀ j, j < way.length → ∃ g off, a = some ⟨g, off, none⟩ ∧ w.cell? ⟨g, off + j * 3, none⟩ = some (.int .i64 (way.getD j ⟨0, 0, false⟩).a) ∧ w.cell? ⟨g, off + j * 3 + 1, none⟩ = some (.int .i64 (way.getD j ⟨0, 0, false⟩).b) ∧ w.cell? ⟨g, off + j * 3 + 2, none⟩ = some (.bool (way.getD j ⟨0, 0, false⟩).right)
theorem WayIn.mv {w w' : World} {v : Value} {way : List Step} (h : WayIn w v way) (hm : Mv (fun _ => False) w w') : WayIn w' v way := by
  obtain ⟨a, c, rfl, hc, h⟩ := h
  refine ⟨a, c, rfl, hc, fun j hj => ?_⟩
  obtain ⟨g, off, rfl, h1, h2, h3⟩ := h j hj
  have hlt := World.block_lt_of_cell? _ _ h1
  exact ⟨g, off, rfl, (hm.cell (p := ⟨g, off + j * 3, none⟩) hlt id).trans h1, (hm.cell (p := ⟨g, off + j * 3 + 1, none⟩) hlt id).trans h2, (hm.cell (p := ⟨g, off + j * 3 + 2, none⟩) hlt id).trans h3⟩
theorem WayIn.of_owns {w : World} {B : Nat} {v : Value} {way : List Step} (h : w.ownsRow B 174 3 v way.length (stepsV way)) : WayIn w v way := by
  obtain ⟨a, c, rfl⟩ := owns_shape h
  refine ⟨a, c, rfl, ?_, fun j hj => ?_⟩
  · rcases h.2 with ⟨he, h0⟩ | ⟨g, cap, cur, he, _, _, hc, _⟩
    · rw [h0]; exact Nat.zero_le _
    · simp only [Value.slice.injEq] at he
      rw [he.2.2]; exact hc
  obtain ⟨g, rfl, h0, h1, h2⟩ := way_at h j hj
  exact ⟨g, 0, rfl, by rw [Nat.zero_add]; exact h0, by rw [Nat.zero_add]; exact h1, by rw [Nat.zero_add]; exact h2⟩
theorem WayIn.tail {w : World} {g off c n : Nat} {s : Step} {way : List Step} (h : WayIn w (.slice (some ⟨g, off, none⟩) n c) (s :: way)) : WayIn w (.slice (if c = 1 then some ⟨g, off, none⟩ else some ⟨g, off + 3, none⟩) (n - 1) (c - 1)) way := by
  obtain ⟨a, c', he, hc, h⟩ := h
  simp only [Value.slice.injEq] at he
  obtain ⟨rfl, rfl, rfl⟩ := he
  simp only [List.length_cons] at hc
  by_cases h1 : c = 1
  · rw [if_pos h1]
    refine ⟨some ⟨g, off, none⟩, c - 1, by simp, by omega, fun j hj => by omega⟩
  · rw [if_neg h1]
    refine ⟨some ⟨g, off + 3, none⟩, c - 1, by simp, by omega, fun j hj => ?_⟩
    obtain ⟨g', off', he, h0, h1, h2⟩ := h (j + 1) (by simp; omega)
    simp only [Option.some.injEq, Addr.mk.injEq] at he
    obtain ⟨rfl, rfl, _⟩ := he
    simp only [List.getD_cons_succ] at h0 h1 h2
    refine ⟨g, off + 3, rfl, ?_, ?_, ?_⟩
    · rw [show off + 3 + j * 3 = off + (j + 1) * 3 by omega]; exact h0
    · rw [show off + 3 + j * 3 + 1 = off + (j + 1) * 3 + 1 by omega]; exact h1
    · rw [show off + 3 + j * 3 + 2 = off + (j + 1) * 3 + 2 by omega]; exact h2
theorem HsIn.tail {w : World} {g off c n : Nat} {h0 : Bs} {p : List Bs} (h : HsIn w (.slice (some ⟨g, off, none⟩) n c) (h0 :: p)) : HsIn w (.slice (if c = 1 then some ⟨g, off, none⟩ else some ⟨g, off + 32, none⟩) (n - 1) (c - 1)) p := by
  rcases h with ⟨he, _⟩ | ⟨g', off', cap, he, hc, hh, hlt⟩
  · cases he
  · simp only [Value.slice.injEq, Option.some.injEq, Addr.mk.injEq] at he
    obtain ⟨⟨rfl, rfl, _⟩, rfl, rfl⟩ := he
    simp only [List.length_cons] at hc
    by_cases h1 : c = 1
    · rw [if_pos h1]
      have hp : p = [] := List.eq_nil_of_length_eq_zero (by omega)
      subst hp
      exact .inr ⟨g, off, c - 1, by simp, by simp, fun j x hx => by simp at hx, fun h => absurd rfl h⟩
    · rw [if_neg h1]
      refine .inr ⟨g, off + 32, c - 1, by simp, by omega, fun j x hx => ?_, fun _ => hlt (by simp)⟩
      obtain ⟨a1, a2⟩ := hh (j + 1) x (by simpa using hx)
      refine ⟨a1, fun t u hu => ?_⟩
      rw [show off + 32 + j * 32 + t = off + (j + 1) * 32 + t by omega]
      exact a2 t u hu
end Go.Proofs.YtdfdikpklddnhaaGreatDoor

/- A node's sum, whichever node it is. -/
namespace Go.Proofs.YtdfdikpklddnhaaGreatDoor
open Go.RowKit
set_option linter.unusedSimpArgs false

set_option maxRecDepth 100000 in
theorem wp_sum {o : Oper} {a : Act} {w : World} {K : Act → World → Prop} {Q : Exit → Act → World → Prop} (s : Nat) (ho : o.op = .call { callee := .invoke (.tmp s) "ledger/proof.sum", args := #[], argTypes := #[] }) (v : Value) (t : Nd) (hx : a.tmps[s]?.getD undef = v) (hn : NodeAt w v t)
    (hK : ∀ w', Mv (fun _ => False) w w' → K (a.put o.dst (hashV t.sum)) w') : Oper.wp Tryz.prog o a w K Q := by
  have hmg := method_given
  have hmj := method_joined
  unfold Oper.wp execOp
  rw [ho]
  cases t with
  | given h =>
    obtain ⟨hl, rfl⟩ := hn
    go_simp
    refine (givenSum_any h w hl).mono ?_
    rintro e w' ⟨rfl, hm⟩
    exact hK w' hm
  | joined l r h =>
    obtain ⟨hl, J, vl, vr, rfl, hj, _, _⟩ := hn
    go_simp
    refine (joinedSum_any h J vl vr w hl hj).mono ?_
    rintro e w' ⟨rfl, hm⟩
    exact hK w' hm
end Go.Proofs.YtdfdikpklddnhaaGreatDoor

/- What a round of climbedTree makes of its state. -/
namespace Go.Proofs.YtdfdikpklddnhaaGreatDoor
open Go.RowKit
set_option linter.unusedSimpArgs false

/-- What a round of climbedTree finds. -/
structure TL (w0 w : World) (T SB B R c : Nat) (st : TSt) (f : Nat → Nat → Bs) : Prop where
  nodes : ∃ fv ov, w.heap[T]? = some (.cells #[fv, ov, .map (some B)] 180 (0, 0)) ∧ NodeAt w fv st.fresh ∧ NodeAt w ov st.old
  s : w.heap[SB]? = some (.cells #[.int .i64 st.sa, .int .i64 st.sb] 170 (0, 0))
  r : w.heap[R]? = some (.cells #[.nilIface, .nilIface, .map none] 180 (0, 0))
  m : MapIs w B c f
  mv : Mv (fun _ => False) w0 w
theorem TL.still {w0 w w' : World} {T SB B R c : Nat} {st : TSt} {f : Nat → Nat → Bs} (h : TL w0 w T SB B R c st f) (hm : Mv (fun _ => False) w w') : TL w0 w' T SB B R c st f := by
  obtain ⟨⟨fv, ov, h1, h2, h3⟩, h4, h5, h6, h7⟩ := h
  exact ⟨⟨fv, ov, (hm.block T (lt_of_heap h1) id).trans h1, h2.mv hm, h3.mv hm⟩, (hm.block SB (lt_of_heap h4) id).trans h4, (hm.block R (lt_of_heap h5) id).trans h5, h6.mv hm id, h7.trans hm⟩
theorem TL.made {w wc x : World} {T S B R sa sb : Nat} {beg : Bs} {f : Nat → Nat → Bs} {Z : Array Value} (hm : Mv (fun _ => False) w wc) (hx : Mv (fun _ => False) wc x) (hT : x.heap[T]? = some (.cells Z 180 (0, 0))) (hS : x.heap[S]? = some (.cells #[.int .i64 sa, .int .i64 sb] 170 (0, 0)))
    (hR : x.heap[R]? = some (.cells #[.nilIface, .nilIface, .map none] 180 (0, 0))) (hB : MapIs x B 1 f) (hb : beg.length = 32) (h1 : T ≠ B) (h2 : T ≠ S) (h3 : T ≠ R) (h4 : w.heap.size ≤ T) :
    TL w (x.setRow T #[.iface 248 (hashV beg), .iface 248 (hashV beg), .map (some B)]) T S B R 1 ⟨.given beg, .given beg, sa, sb⟩ f :=
  have hmv : Mv (fun b => b = T) x (x.setRow T #[.iface 248 (hashV beg), .iface 248 (hashV beg), .map (some B)]) := (Mv.refl (fun b => b = T) _).setRow (.inl rfl) _
  ⟨⟨_, _, setRow_heap _ _ _ _ _ _ hT, ⟨hb, rfl⟩, ⟨hb, rfl⟩⟩, (setRow_other _ _ _ _ (Ne.symm h2)).trans hS, (setRow_other _ _ _ _ (Ne.symm h3)).trans hR, hB.mv hmv (Ne.symm h1), (hm.trans hx).setRow (.inr h4) _⟩
theorem three_one (t t' : TypeId) (v v' : Value) (b : Option Nat) : (#[.iface t v, .iface t' v', .map b] : Array Value).all (·.oneCell') = true := by simp [Value.oneCell']
theorem z180 : (Tryz.prog.info? 180).map (·.size) = some 3 := by kernel_rfl
theorem NodeAt.setCell {w : World} {v : Value} {t : Nd} (h : NodeAt w v t) {b i : Nat} {C : Array Value} {E : TypeId} (hb : w.heap[b]? = some (.cells C E (0, 0))) (hE : E ≠ 309) (x : Value) : NodeAt (w.setCell ⟨b, i, none⟩ x) v t :=
  NodeAt.mvT (F := fun k => k = b) ((Mv.refl (fun k => k = b) _).setCell (p := ⟨b, i, none⟩) (.inl rfl) _) (fun k hk c e => by subst hk; rw [hb] at e; simp at e; exact hE e.2) h
theorem MapIs.setCell {w : World} {B n : Nat} {f : Nat → Nat → Bs} (h : MapIs w B n f) {b i : Nat} (hb : B ≠ b) (x : Value) : MapIs (w.setCell ⟨b, i, none⟩ x) B n f :=
  h.mv (F := fun k => k = b) ((Mv.refl (fun k => k = b) _).setCell (p := ⟨b, i, none⟩) (.inl rfl) _) hb
theorem TL.fresh {w0 w w6 : World} {T S B R c : Nat} {st : TSt} {f : Nat → Nat → Bs} (h : TL w0 w T S B R c st f) (hm : Mv (fun _ => False) w w6) {v : Value} {t : Nd} (hv : NodeAt w6 v t)
    (h0 : w0.heap.size ≤ T) (h1 : T ≠ B) (h2 : T ≠ S) (h3 : T ≠ R) : TL w0 (w6.setCell ⟨T, 0, none⟩ v) T S B R c { st with fresh := t } f := by
  obtain ⟨⟨fv, ov, a1, a2, a3⟩, a4, a5, a6, a7⟩ := h.still hm
  exact ⟨⟨v, ov, heap_setCell_same a1 _, hv.setCell a1 (by decide) _, a3.setCell a1 (by decide) _⟩, (heap_setCell_other (Ne.symm h2) _).trans a4, (heap_setCell_other (Ne.symm h3) _).trans a5, a6.setCell (Ne.symm h1) _, a7.setCell (.inr h0) _⟩
theorem TL.older {w0 w w6 : World} {T S B R c : Nat} {st : TSt} {f : Nat → Nat → Bs} (h : TL w0 w T S B R c st f) (hm : Mv (fun _ => False) w w6) {v : Value} {t : Nd} (hv : NodeAt w6 v t)
    (h0 : w0.heap.size ≤ T) (h1 : T ≠ B) (h2 : T ≠ S) (h3 : T ≠ R) : TL w0 (w6.setCell ⟨T, 1, none⟩ v) T S B R c { st with old := t } f := by
  obtain ⟨⟨fv, ov, a1, a2, a3⟩, a4, a5, a6, a7⟩ := h.still hm
  exact ⟨⟨fv, v, heap_setCell_same a1 _, a2.setCell a1 (by decide) _, hv.setCell a1 (by decide) _⟩, (heap_setCell_other (Ne.symm h2) _).trans a4, (heap_setCell_other (Ne.symm h3) _).trans a5, a6.setCell (Ne.symm h1) _, a7.setCell (.inr h0) _⟩
theorem TL.setB {w0 w : World} {T S B R c : Nat} {st : TSt} {f : Nat → Nat → Bs} (h : TL w0 w T S B R c st f) (b : Nat) (h0 : w0.heap.size ≤ S) (h1 : B ≠ S) (h2 : T ≠ S) (h3 : R ≠ S) : TL w0 (w.setCell ⟨S, 1, none⟩ (.int .i64 b)) T S B R c { st with sb := b } f := by
  obtain ⟨⟨fv, ov, a1, a2, a3⟩, a4, a5, a6, a7⟩ := h
  exact ⟨⟨fv, ov, (heap_setCell_other h2 _).trans a1, a2.setCell a4 (by decide) _, a3.setCell a4 (by decide) _⟩, heap_setCell_same a4 _, (heap_setCell_other h3 _).trans a5, a6.setCell h1 _, a7.setCell (.inr h0) _⟩
theorem TL.setA {w0 w : World} {T S B R c : Nat} {st : TSt} {f : Nat → Nat → Bs} (h : TL w0 w T S B R c st f) (a : Nat) (h0 : w0.heap.size ≤ S) (h1 : B ≠ S) (h2 : T ≠ S) (h3 : R ≠ S) : TL w0 (w.setCell ⟨S, 0, none⟩ (.int .i64 a)) T S B R c { st with sa := a } f := by
  obtain ⟨⟨fv, ov, a1, a2, a3⟩, a4, a5, a6, a7⟩ := h
  exact ⟨⟨fv, ov, (heap_setCell_other h2 _).trans a1, a2.setCell a4 (by decide) _, a3.setCell a4 (by decide) _⟩, heap_setCell_same a4 _, (heap_setCell_other h3 _).trans a5, a6.setCell h1 _, a7.setCell (.inr h0) _⟩
/-- .. and the map's new entry. -/
theorem TL.put {w0 w w' : World} {T S B R c : Nat} {st : TSt} {f g : Nat → Nat → Bs} (h : TL w0 w T S B R c st f) (hm : MapIs w' B (c + 1) g) (hg : w.grownBy w' (some B)) (h0 : w0.heap.size ≤ B) (h1 : T ≠ B) (h2 : B ≠ S) (h3 : B ≠ R) : TL w0 w' T S B R (c + 1) st g := by
  have hmv : Mv (fun k => k = B) w w' := (Mv.refl _ _).grown hg (fun k hk => .inl (by cases hk; rfl))
  obtain ⟨⟨fv, ov, a1, a2, a3⟩, a4, a5, ⟨D, _, ⟨es, cl, hb, _⟩, _⟩, a7⟩ := h
  have hT : ∀ b, b = B → ∀ c, w.heap[b]? ≠ some (.cells c 309 (0, 0)) := fun b e c he => by subst e; rw [hb] at he; cases he
  exact ⟨⟨fv, ov, (hmv.block T (lt_of_heap a1) h1).trans a1, NodeAt.mvT hmv hT a2, NodeAt.mvT hmv hT a3⟩, (hmv.block S (lt_of_heap a4) (Ne.symm h2)).trans a4, (hmv.block R (lt_of_heap a5) (Ne.symm h3)).trans a5, hm, a7.trans' hmv (fun i hi h => by omega)⟩
end Go.Proofs.YtdfdikpklddnhaaGreatDoor
