/- LaneAnyFirst: Any on a net that a statement holds; the state of its eight lanes, as plain data. -/
import Derived.Test.YtadalodjnbnjkaaAny
import Derived.Test.YtadalodjnbnjkaaSends
namespace Go.Proofs.Ytadalodjnbnjkaa
open Go.RowKit Go.Conc

def AnyM (w : World) (A : Ga) (N' : Nt) (x : Int) (m : List Int) (n : Nat) (K : List Nat) (wr : World) (e : Ending) (w' : World) : Prop :=
  ∃ g c, e = .returned (.tuple #[.int .i64 x, .slice (some ⟨g, 0, none⟩) n c, .int .i64 0]) ∧ RowIn w' (some ⟨g, 0, none⟩) n m ∧ Holds w A N' (g :: K) w' ∧ Kept w K wr w'
def AnyE (w : World) (A : Ga) (N' : Nt) (x er : Int) (K : List Nat) (wr : World) (e : Ending) (w' : World) : Prop :=
  e = .returned (.tuple #[.int .i64 x, .slice none 0 0, .int .i64 er]) ∧ Holds w A N' K w' ∧ Kept w K wr w'
section
variable {w wr : World} {A : Ga} {N N' : Nt} {K : List Nat}
theorem Holds.anyM (h : Holds w A N K wr) (hf : Fine N) (t lb lcap : Nat) (ls : List Nat) (hls : ∀ l ∈ ls, l < N.nl) (hnl : N.nl ≤ 64) (hlen : ls.length ≤ 64) (hpos : 0 < ls.length) (hnd : ls.Nodup) (ht : t ≤ 65536)
    (hlb : lb ∈ K) (hc : ∀ i, i < ls.length → wr.cell? ⟨lb, i, none⟩ = some (.int .i64 (ls.getD i 0))) {m : List Int} {n : Nat} {x : Int} (hm : Nt.waitGo ls t N = ⟨x, some m, 0, N'⟩) (hn : m.length = n) :
    Calls Try.prog 26 #[.pointer (some ⟨A.net, 0, none⟩), .slice (some ⟨lb, 0, none⟩) ls.length lcap, .int .i64 t] wr (AnyM w A N' x m n K wr) := by
  subst hn
  obtain ⟨own, h1, h2, h3, h4⟩ := h
  refine (any_ok wr own A N t lb lcap ls h1 hf hls hnl hlen hpos hnd ht ⟨(h4 lb hlb).1, (h4 lb hlb).2, hc⟩).mono ?_
  rw [hm]
  rintro e w' ⟨v, rfl, own', r1, r2, r3, g, q1, q2, q3⟩
  obtain ⟨c, rfl, hrow⟩ := RowIn.of_msg q1
  have hs := h2.size
  refine ⟨g, c, rfl, hrow, ⟨own', r1, h2.trans' r2 (fun b hb hh => hh (h3 b hb)), fun b hb => r3 b (by omega) (h3 b hb), fun b hb => ?_⟩, r2.size, fun b hb => ?_⟩
  · rcases List.mem_cons.1 hb with rfl | hb
    · exact ⟨q2, q1.lt⟩
    · exact ⟨r3 b (h4 b hb).2 (h4 b hb).1, Nat.lt_of_lt_of_le (h4 b hb).2 r2.size⟩
  · rcases hb with hb | hb
    · exact r2.block b (h4 b hb).2 (by unfold Own.has; rw [(h4 b hb).1]; simp)
    · exact r2.block b (by omega) (by unfold Own.has; rw [h3 b hb]; simp)
theorem Holds.anyE (h : Holds w A N K wr) (hf : Fine N) (t lb lcap : Nat) (ls : List Nat) (hls : ∀ l ∈ ls, l < N.nl) (hnl : N.nl ≤ 64) (hlen : ls.length ≤ 64) (hpos : 0 < ls.length) (hnd : ls.Nodup) (ht : t ≤ 65536)
    (hlb : lb ∈ K) (hc : ∀ i, i < ls.length → wr.cell? ⟨lb, i, none⟩ = some (.int .i64 (ls.getD i 0))) {x er : Int} (hm : Nt.waitGo ls t N = ⟨x, none, er, N'⟩) :
    Calls Try.prog 26 #[.pointer (some ⟨A.net, 0, none⟩), .slice (some ⟨lb, 0, none⟩) ls.length lcap, .int .i64 t] wr (AnyE w A N' x er K wr) := by
  obtain ⟨own, h1, h2, h3, h4⟩ := h
  refine (any_ok wr own A N t lb lcap ls h1 hf hls hnl hlen hpos hnd ht ⟨(h4 lb hlb).1, (h4 lb hlb).2, hc⟩).mono ?_
  rw [hm]
  rintro e w' ⟨v, rfl, own', r1, r2, r3, rfl⟩
  have hs := h2.size
  refine ⟨rfl, ⟨own', r1, h2.trans' r2 (fun b hb hh => hh (h3 b hb)), fun b hb => r3 b (by omega) (h3 b hb), fun b hb => ⟨r3 b (h4 b hb).2 (h4 b hb).1, Nat.lt_of_lt_of_le (h4 b hb).2 r2.size⟩⟩, r2.size, fun b hb => ?_⟩
  rcases hb with hb | hb
  · exact r2.block b (h4 b hb).2 (by unfold Own.has; rw [(h4 b hb).1]; simp)
  · exact r2.block b (by omega) (by unfold Own.has; rw [h3 b hb]; simp)
/-- A message of one byte, written out. -/
theorem Holds.sendLit {W : World} {c : Nat} {x : Int} (h : Holds w A N K wr) (hm : Mv (fun _ => False) wr W) (hc : wr.heap.size ≤ c) (hb : W.heap[c]? = some (.cells #[.int .u8 x] 5)) (hf : Fit N) (i : Nat) (hi : i < N.nl) (hop : (N.lane i).closed = false) :
    Calls Try.prog 18 #[.pointer (some ⟨A.net, 0, none⟩), .int .i64 i, .slice (some ⟨c, 0, none⟩) 1 1] W (HeldC w A (N.send i [x]) K wr (.returned (.int .i64 0))) := by
  have hh := h
  obtain ⟨own, q1, q2, q3, q4⟩ := hh
  refine ((h.new hm hc (lt_of_heap hb)).send hf i hi hop ⟨c, 0, none⟩ 1 1 [x] (by omega) (by omega) ⟨rfl, .inr ⟨c, 0, rfl, fun j hj => ?_⟩⟩ (.inl (by simp))).mono ?_
  · obtain rfl : j = 0 := by omega
    exact cell_of_heap hb 0 rfl
  · rintro e w' ⟨rfl, r1, r2⟩
    refine ⟨rfl, r1.sub (by intro b hb; simp [hb]), Nat.le_trans hm.size r2.1, fun b hbb => ?_⟩
    have hlt : b < wr.heap.size := by
      rcases hbb with hbb | hbb
      · exact (q4 b hbb).2
      · exact Nat.lt_of_lt_of_le hbb q2.size
    exact (r2.2 b (hbb.imp (fun h => by simp [h]) id)).trans (hm.block b hlt id)
theorem RowIn.cell1 {w : World} {g : Nat} {x : Int} (h : RowIn w (some ⟨g, 0, none⟩) 1 [x]) : w.cell? ⟨g, 0, none⟩ = some (.int .u8 x) := by
  rcases h.2 with h0 | ⟨b, off, he, hc⟩
  · omega
  · cases he
    exact hc 0 (by omega)
theorem Holds.cell {w' : World} {g j : Nat} {v : Value} (hk : Kept w K wr w') (hg : g ∈ K) (hc : wr.cell? ⟨g, j, none⟩ = some v) : w'.cell? ⟨g, j, none⟩ = some v :=
  (World.cell?_of_block (w := wr) (a := ⟨g, j, none⟩) (hk.2 g (.inl hg))).trans hc
end

/-! ### the list of lanes -/
def intCells (L : List Nat) : List Value := L.map fun (x : Nat) => Value.int .i64 (x : Int)
theorem intCells_snoc (L : List Nat) (x : Nat) : intCells (L ++ [x]) = intCells L ++ [.int .i64 (x : Int)] := by simp [intCells]
/-- The list that the loop has gathered: lanes below 8, each once. -/
def LsRel (w : World) (L : List Nat) (v : Value) (wr : World) : Prop :=
  Below w.heap.size w wr ∧ wr.ownsRow w.heap.size 3 1 v L.length (intCells L) ∧ L.Nodup ∧ ∀ l ∈ L, l < 8
theorem LsRel.start (w : World) : LsRel w [] (.slice none 0 0) w := ⟨Below.refl _ _, World.ownsRow_nil _ _ _ _, List.nodup_nil, fun l h => by simp at h⟩
theorem LsRel.snoc {w wr wr' : World} {L : List Nat} {v v' : Value} {x : Nat} (h : LsRel w L v wr) (hx : x ∉ L) (hx8 : x < 8) {o : Obj}
    (hgrow : (wr.alloc o).grownBy wr' v.ownBlock) (hown : wr'.ownsRow w.heap.size 3 1 v' (L.length + 1) (intCells L ++ [.int .i64 (x : Int)])) : LsRel w (L ++ [x]) v' wr' := by
  have hs := h.1.size
  refine ⟨(h.1.alloc (by omega) o).grown hgrow (by simp; omega) (fun b hb => (h.2.1.lt b hb).1), ?_, ?_, ?_⟩
  · rw [List.length_append, intCells_snoc]; exact hown
  · rw [List.nodup_append]
    refine ⟨h.2.2.1, by simp, fun a ha b hb => ?_⟩
    simp only [List.mem_singleton] at hb
    subst hb
    intro e; subst e; exact hx ha
  · intro l hl
    simp only [List.mem_append, List.mem_singleton] at hl
    rcases hl with hl | rfl
    · exact h.2.2.2 l hl
    · exact hx8
/-- Its shape, where it isn't empty. -/
theorem LsRel.row {w wr : World} {L : List Nat} {v : Value} (h : LsRel w L v wr) (hne : 0 < L.length) :
    ∃ g cap, v = .slice (some ⟨g, 0, none⟩) L.length cap ∧ w.heap.size ≤ g ∧ g < wr.heap.size ∧ L.length ≤ cap ∧ ∀ i, i < L.length → wr.cell? ⟨g, i, none⟩ = some (.int .i64 (L.getD i 0)) := by
  rcases h.2.1.2 with ⟨rfl, hz⟩ | ⟨g, cap, cur, rfl, hb, hg, h1, h2, h3, h4⟩
  · omega
  · have hc := h.2.1.cells (g := g) rfl
    have e1 : ∀ i, (⟨g, 0, none⟩ : Addr).add i = ⟨g, i, none⟩ := fun i => by unfold Addr.add; split <;> simp_all
    refine ⟨g, cap, rfl, hb, lt_of_heap hg, by omega, fun i hi => ?_⟩
    have hi2 : (intCells L)[i]? = some (.int .i64 (L.getD i 0)) := by simp [intCells, hi]
    have := hc _ _ hi2
    rw [e1] at this
    exact this
theorem LsRel.shape {w wr : World} {L : List Nat} {v : Value} (h : LsRel w L v wr) :
    ∃ ad cap, v = .slice ad L.length cap ∧ ∀ i, i < L.length → ∃ g, ad = some ⟨g, 0, none⟩ ∧ wr.cell? ⟨g, i, none⟩ = some (.int .i64 (L.getD i 0)) := by
  by_cases h0 : 0 < L.length
  · obtain ⟨g, cap, hv, _, _, _, hc⟩ := h.row h0
    exact ⟨_, _, hv, fun i hi => ⟨g, rfl, hc i hi⟩⟩
  · have hz : L.length = 0 := by omega
    rcases h.2.1.2 with ⟨rfl, _⟩ | ⟨g, cap, cur, rfl, _⟩
    · exact ⟨none, 0, by rw [hz], fun i hi => by omega⟩
    · exact ⟨_, _, rfl, fun i hi => by omega⟩
theorem take_succ_mem {L : List Nat} {j x : Nat} (hj : j < L.length) : (x ∈ L.take (j + 1)) ↔ (x ∈ L.take j ∨ L.getD j 0 = x) := by
  have e : L.getD j 0 = L[j] := by simp [hj]
  rw [List.take_succ_eq_append_getElem hj, List.mem_append, List.mem_singleton, e]
  exact or_congr Iff.rfl ⟨Eq.symm, Eq.symm⟩

/-! ### the net -/
structure Many (N : Nt) (s t : Nat) (b : Nat → List (List Int)) : Prop where
  nl : N.nl = 8
  fates : N.fates = []
  now : N.now = t
  later : N.later = []
  lane : ∀ i, N.lane i = ⟨b i, false, 0⟩
  sent : N.sent = s
theorem Many.start : Many (net0 8 []) 0 0 (fun _ => []) := ⟨rfl, rfl, rfl, rfl, fun _ => rfl, rfl⟩
theorem Many.okn {N : Nt} {s t : Nat} {b : Nat → List (List Int)} (h : Many N s t b) : Okn N where
  fates := by rw [h.fates]; intro f hf; simp at hf
  later := by rw [h.later]; intro x hx; simp at hx
  coming := fun i hi => by rw [h.later, cnt_nil, h.lane i]
theorem Many.fine {N : Nt} {s t : Nat} {b : Nat → List (List Int)} (h : Many N s t b) (ht : t < 100000) : Fine N :=
  ⟨h.okn, by rw [h.now]; omega, by rw [h.later]; simp, by rw [h.later]; intro x hx; simp at hx⟩
theorem Many.fit {N : Nt} {s t : Nat} {b : Nat → List (List Int)} (h : Many N s t b) (hs : s < 100000) (ht : t < 100000) : Fit N :=
  ⟨h.okn.fates, by rw [h.sent]; omega, by rw [h.now]; omega, by rw [h.later]; simp, fun i hi => by rw [h.okn.coming i hi]; exact cnt_le _ _⟩
def setB (b : Nat → List (List Int)) (i : Nat) (x : List (List Int)) : Nat → List (List Int) := fun j => if j = i then x else b j
theorem Many.send {N : Nt} {s t : Nat} {b : Nat → List (List Int)} (h : Many N s t b) (i : Nat) (m : List Int) (hi : (b i).length < 64) : Many (N.send i m) (s + 1) t (setB b i (b i ++ [m])) := by
  have e : N.send i m = N.took.pushed i m := by
    have : N.fateOf = (0, 0) := by unfold Nt.fateOf; rw [h.fates]; rfl
    unfold Nt.send
    rw [this]
    simp [Nt.fated]
  rw [e]
  refine ⟨h.nl, h.fates, h.now, h.later, fun j => ?_, by show N.sent + 1 = _; rw [h.sent]⟩
  by_cases hj : j = i
  · subst hj
    rw [pushed_same]
    show (N.lane j).push m = _
    rw [h.lane j]
    simp [Lq.push, setB, hi]
  · rw [pushed_other _ _ hj]
    show N.lane j = _
    rw [h.lane j]; simp [setB, hj]
theorem Many.pop {N : Nt} {s t : Nat} {b : Nat → List (List Int)} (h : Many N s t b) (i : Nat) : Many (N.popped i) s t (setB b i (b i).tail) := by
  refine ⟨h.nl, h.fates, h.now, h.later, fun j => ?_, h.sent⟩
  by_cases hj : j = i
  · subst hj; rw [popped_same, h.lane j]; simp [Lq.pop, setB]
  · rw [popped_other _ hj, h.lane j]; simp [setB, hj]
theorem Many.at {N : Nt} {s t : Nat} {b : Nat → List (List Int)} (h : Many N s t b) (u : Nat) : Many (N.at u) s u b := ⟨h.nl, h.fates, rfl, h.later, h.lane, h.sent⟩
theorem Many.closed {N : Nt} {s t : Nat} {b : Nat → List (List Int)} (h : Many N s t b) (i : Nat) : (N.lane i).closed = false := by rw [h.lane i]

/-- The lanes of the list on which something waits: each its own number. -/
def bOf (hb : Nat → Bool) (L : List Nat) : Nat → List (List Int) := fun j => if j ∈ L ∧ hb j = true then [[(j : Int)]] else []
def wantI (hb : Nat → Bool) (L : List Nat) : Int := match L.find? hb with | some l => (l : Int) | none => -1
theorem bOf_nil (hb : Nat → Bool) : bOf hb [] = fun _ => [] := by funext j; simp [bOf]
theorem bOf_no {hb : Nat → Bool} {L : List Nat} {x : Nat} (hx : hb x = false) : bOf hb (L ++ [x]) = bOf hb L := by
  funext j
  unfold bOf
  by_cases hj : j = x
  · subst hj; simp [hx]
  · simp [hj]
theorem bOf_yes {hb : Nat → Bool} {L : List Nat} {x : Nat} (hn : x ∉ L) (hx : hb x = true) : setB (bOf hb L) x (bOf hb L x ++ [[(x : Int)]]) = bOf hb (L ++ [x]) := by
  funext j
  unfold setB bOf
  by_cases hj : j = x
  · subst hj; simp [hx, hn]
  · simp [hj]
theorem bOf_len (hb : Nat → Bool) (L : List Nat) (x : Nat) : (bOf hb L x).length < 64 := by unfold bOf; split <;> simp
theorem wantI_no {hb : Nat → Bool} {L : List Nat} {x : Nat} (hx : hb x = false) : wantI hb (L ++ [x]) = wantI hb L := by
  unfold wantI; rw [List.find?_append]; cases L.find? hb <;> simp [hx]
theorem wantI_old {hb : Nat → Bool} {L : List Nat} {x : Nat} (h : 0 ≤ wantI hb L) : wantI hb (L ++ [x]) = wantI hb L := by
  unfold wantI at h ⊢; rw [List.find?_append]
  cases hf : L.find? hb with
  | none => rw [hf] at h; simp at h
  | some l => simp
theorem wantI_new {hb : Nat → Bool} {L : List Nat} {x : Nat} (h : wantI hb L < 0) (hx : hb x = true) : wantI hb (L ++ [x]) = x := by
  unfold wantI at h ⊢; rw [List.find?_append]
  cases hf : L.find? hb with
  | none => simp [hx]
  | some l => rw [hf] at h; simp at h; omega
theorem wantI_range {hb : Nat → Bool} {L : List Nat} (h8 : ∀ l ∈ L, l < 8) : -1 ≤ wantI hb L ∧ wantI hb L < 8 := by
  unfold wantI
  cases hf : L.find? hb with
  | none => simp
  | some l => have := h8 l (List.mem_of_find?_eq_some hf); simp; omega

theorem find?_congr' {p q : Nat → Bool} : ∀ {L : List Nat}, (∀ x ∈ L, p x = q x) → L.find? p = L.find? q
  | [], _ => rfl
  | x :: L, h => by
    rw [List.find?_cons, List.find?_cons, h x (by simp), find?_congr' (L := L) (fun y hy => h y (by simp [hy]))]

/-- What Any comes to. -/
theorem first_plain {N : Nt} {s : Nat} {hb : Nat → Bool} {x : Nat} {L : List Nat} (h : Many N s 0 (bOf hb (x :: L))) (t : Nat) :
    (∃ l : Nat, wantI hb (x :: L) = l ∧ ∃ N', Nt.waitGo (x :: L) t N = ⟨l, some [(l : Int)], 0, N'⟩ ∧ ∃ b, Many N' s 0 b ∧ b x = []) ∨
    (wantI hb (x :: L) = -1 ∧ ∃ N', Nt.waitGo (x :: L) t N = ⟨0, none, 190, N'⟩ ∧ ∃ b, Many N' s t b ∧ b x = []) := by
  have hmsg : ∀ l ∈ (x :: L), hasMsg (N.lane l) = hb l := by
    intro l hl
    rw [h.lane l]
    unfold hasMsg bOf
    cases hb l <;> simp [hl]
  have hfst : fstO N (x :: L) = (x :: L).find? hb := find?_congr' hmsg
  cases hf : (x :: L).find? hb with
  | some l =>
    left
    have hl := List.mem_of_find?_eq_some hf
    have hbl : hb l = true := by simpa using List.find?_some hf
    refine ⟨l, by unfold wantI; rw [hf], _, ?_, _, h.pop l, ?_⟩
    · rw [waitGo_some (hfst.trans hf), h.lane l]
      have : bOf hb (x :: L) l = [[(l : Int)]] := by unfold bOf; rw [if_pos ⟨hl, hbl⟩]
      rw [this]; rfl
    · unfold setB
      by_cases hx : x = l
      · rw [if_pos hx]; unfold bOf; split <;> rfl
      · rw [if_neg hx]
        unfold bOf
        have : hb x = false := by
          cases hbx : hb x with
          | false => rfl
          | true => rw [List.find?_cons, hbx] at hf; simp at hf; exact absurd hf hx
        simp [this]
  | none =>
    right
    have ho : allB N (x :: L) = false := by
      unfold allB
      rw [List.all_cons, h.lane x]
      simp [overB, Lq.shut]
    refine ⟨by unfold wantI; rw [hf], _, waitGo_out t (hfst.trans hf) ho (by rw [h.later]; intro y hy; simp at hy), bOf hb (x :: L), ?_, ?_⟩
    · rw [h.now, Nat.zero_add]; exact h.at t
    · have hbx := List.find?_eq_none.1 hf x (by simp)
      unfold bOf
      simp at hbx
      simp [hbx]
end Go.Proofs.Ytadalodjnbnjkaa
