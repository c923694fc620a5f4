/- The book: hold. -/
import Derived.Test.YtadalodjnbnjkaaPlay12
import Derived.Deep.AppendLies
import Derived.Deep.RegionLaw
import Derived.Deep.RegionLawGrows
namespace Go.Proofs.Ytadalodjnbnjkaa
open Go.RowKit Go.Conc

theorem Try.info124 : (Try.prog.info? 124).map (fun i => (i.zero, i.size, i.bytes)) = some (some (.agg #[.slice none 0 0, .slice none 0 0, .int .u8 0]), 3, 56) := by kernel_rfl
theorem Try.underlying87 : Try.prog.underlying 87 = some (.slice 124) := by kernel_rfl
/-- The slice's own block, all of it. -/
def Blk (a : Option Addr) (b : Nat) : Prop := a = some ⟨b, 0, none⟩
/-- A list that hold may write on. -/
def LstIs (w : World) (a : Option Addr) (n c : Nat) : Prop :=
  (a = none ∧ n = 0 ∧ c = 0) ∨ ∃ g cur, a = some ⟨g, 0, none⟩ ∧ w.heap[g]? = some (.cells cur 5 (0, 0)) ∧ n ≤ c ∧ c ≤ maxLen ∧ cur.size = c
def HoldRel (w : World) (a : Option Addr) (n c : Nat) (m : Int) (k : Nat) (wr : World) : Prop :=
  Mv (Blk a) w wr ∧ ((a = none ∧ n = 0 ∧ c = 0) ∨ ∃ g cur, a = some ⟨g, 0, none⟩ ∧ wr.heap[g]? = some (.cells cur 5 (0, 0)) ∧ n ≤ c ∧ c ≤ maxLen ∧ cur.size = c ∧ ∀ j, j < k → cur[j]? = some (.int .u8 m))
theorem HoldRel.start {w : World} {a : Option Addr} {n c : Nat} {m : Int} (h : LstIs w a n c) : HoldRel w a n c m 0 w := by
  refine ⟨Mv.refl _ _, h.imp id ?_⟩
  rintro ⟨g, cur, h1, h2, h3, h4, h5⟩
  exact ⟨g, cur, h1, h2, h3, h4, h5, fun j hj => by omega⟩
theorem HoldRel.at {w wr : World} {a : Option Addr} {n c k : Nat} {m : Int} (h : HoldRel w a n c m k wr) (hk : k < n) : ∃ g v, a = some ⟨g, 0, none⟩ ∧ wr.cell? ⟨g, k, none⟩ = some v ∧ wr.frozen? ⟨g, k, none⟩ = false := by
  rcases h.2 with ⟨_, h2, _⟩ | ⟨g, cur, h1, h2, h3, h4, h5, h6⟩
  · omega
  · exact ⟨g, _, h1, cell_of_heap h2 k (Array.getElem?_eq_getElem (by omega)), free_of_heap h2 k⟩
theorem HoldRel.step {w wr : World} {g n c k : Nat} {m : Int} (h : HoldRel w (some ⟨g, 0, none⟩) n c m k wr) (hk : k < n) : HoldRel w (some ⟨g, 0, none⟩) n c m (k + 1) (wr.setCell ⟨g, k, none⟩ (.int .u8 m)) := by
  rcases h.2 with ⟨h1, _⟩ | ⟨g', cur, h1, h2, h3, h4, h5, h6⟩
  · cases h1
  · cases h1
    refine ⟨h.1.setCell (.inl (show (some _ : Option Addr) = some _ from rfl)) _, .inr ⟨g, cur.setIfInBounds k (.int .u8 m), rfl, heap_setCell_same h2 _, h3, h4, by simpa using h5, fun j hj => ?_⟩⟩
    by_cases e : j = k
    · subst e; rw [Array.getElem?_setIfInBounds_self, if_pos (by omega)]
    · rw [Array.getElem?_setIfInBounds_ne (Ne.symm e)]; exact h6 j (by omega)
theorem ub_replicate (n : Nat) (m : Int) : ub (List.replicate n m) = List.replicate n (.int .u8 m) := by simp [ub]
theorem HoldRel.row {w wr : World} {a : Option Addr} {n c : Nat} {m : Int} (h : HoldRel w a n c m n wr) : wr.ownsRow 0 5 1 (.slice a n c) n (List.replicate n (.int .u8 m)) := by
  refine ⟨by simp, ?_⟩
  rcases h.2 with ⟨rfl, rfl, rfl⟩ | ⟨g, cur, rfl, h2, h3, h4, h5, h6⟩
  · exact .inl ⟨rfl, rfl⟩
  · refine .inr ⟨g, c, cur, rfl, Nat.zero_le _, h2, h3, h4, by omega, ?_⟩
    refine List.ext_getElem? fun j => ?_
    rw [List.getElem?_take, List.getElem?_replicate, Nat.mul_one]
    by_cases hj : j < n
    · rw [if_pos hj, if_pos hj, Array.getElem?_toList]; exact h6 j hj
    · rw [if_neg hj, if_neg hj]
theorem rowIn_of_row {w : World} {a : Option Addr} {n c : Nat} {m : Int} (h : w.ownsRow 0 5 1 (.slice a n c) n (List.replicate n (.int .u8 m))) : RowIn w a n (List.replicate n m) := by
  refine ⟨by simp, ?_⟩
  rcases h.2 with ⟨_, h1⟩ | ⟨g, cap, cur, h1, _⟩
  · exact .inl h1
  · cases h1
    refine .inr ⟨g, 0, rfl, fun j hj => ?_⟩
    have := h.cells (g := g) rfl j (.int .u8 m) (by rw [List.getElem?_replicate, if_pos hj])
    rw [getD_replicate hj, Nat.zero_add]
    by_cases h0 : j = 0
    · subst h0; simpa [Addr.add] using this
    · simpa [Addr.add, h0] using this

theorem add_zero_block (g j : Nat) : (⟨g, 0, none⟩ : Addr).add j = ⟨g, j, none⟩ := by
  by_cases h0 : j = 0
  · subst h0; simp [Addr.add]
  · simp [Addr.add, h0]
/-- AT A STEP OF A REGION THAT DRAWS: one mark behind marks; the list itself still reads. -/
theorem step_mark {ops : Array Oper} {o : Oper} {a : Act} {w : World} {K : Act → World → Prop} {Q : Exit → Act → World → Prop} {E : Prop} (hg : o.guard = none) (s x : Operand)
    (hop : o.op = .call { callee := .builtin .append, args := #[s, x], argTypes := #[47, 47] }) (p : Option Addr) (n c : Nat) (m : Int) (hs : a.eval s = .slice p n c)
    (hr : w.ownsRow 0 5 1 (.slice p n c) n (List.replicate n (.int .u8 m))) (b cx : Nat) (hx : a.eval x = .slice (some ⟨b, 0, none⟩) 1 cx) (hc : w.heap[b]? = some (.cells #[.int .u8 m] 5 (0, 0))) (hn : n ≤ 1099511627776)
    (hK : ∀ g cap w', w'.ownsRow 0 5 1 (.slice (some ⟨g, 0, none⟩) (n + 1) cap) (n + 1) (List.replicate (n + 1) (.int .u8 m)) → w'.ownsRow 0 5 1 (.slice p n c) n (List.replicate n (.int .u8 m)) → w.grownBy w' (Value.slice p n c).ownBlock →
      ((Value.slice p n c).ownBlock = some g ∨ w.heap.size ≤ g) → g < w'.heap.size → K (a.put o.dst (.slice (some ⟨g, 0, none⟩) (n + 1) cap)) w') :
    if Region.wanted o (yielded ops a.tmps) = true then Oper.wp Try.prog o a w K Q else E := by
  obtain ⟨i1, hi1, hy0, hy1, hy2⟩ := info_parts Try.info5
  have hnews : ∀ j u, [Value.int .u8 m][j]? = some u → w.cell? ((⟨b, 0, none⟩ : Addr).add j) = some u := World.news_of_block (cs := #[.int .u8 m]) (t := 5) (fr := (0, 0)) hc
  have hone : ∀ u ∈ [Value.int .u8 m], u.oneCell' = true := by simp [Value.oneCell']
  have hsnoc : List.replicate n (Value.int .u8 m) ++ [Value.int .u8 m] = List.replicate (n + 1) (Value.int .u8 m) := by rw [List.replicate_succ']
  rcases id hr.2 with ⟨h1, rfl⟩ | ⟨g, cap, cur, h1, h2, h3, h4, h5, h6, h7⟩
  · cases h1
    refine step_append_grows hg s x 47 hop 5 i1 _ 1 1 Try.underlying47 hi1 hy0 hy1 hy2 rfl (by omega) none 0 0 [] hs (fun _ => ⟨rfl, rfl⟩) rfl (fun b hb => by cases hb) ⟨b, 0, none⟩ 1 cx [.int .u8 m] hx rfl hnews hone (by omega) (by unfold maxLen; omega) (by omega) ?_
    intro v' w' ro gr
    obtain ⟨gg, cap, rfl, hge, hlt⟩ := ro.form (by omega)
    exact hK gg cap w' (ownsRow_base ro (by simp)) (World.ownsRow_nil _ _ _ _) gr (.inr hge) hlt
  · cases h1
    have hrc : ∀ j u, (List.replicate n (Value.int .u8 m))[j]? = some u → w.cell? ((⟨g, 0, none⟩ : Addr).add j) = some u := hr.cells (g := g) rfl
    by_cases hroom : n + 1 ≤ c
    · refine step_append_room hg s x 47 hop 5 i1 1 Try.underlying47 hi1 hy1 g 0 n c hs ⟨b, 0, none⟩ 1 cx [.int .u8 m] hx rfl hnews hone hroom (fun j hj => ?_) ?_
      · obtain rfl : j = 0 := by simpa using hj
        rw [show 0 + n * 1 + 0 = n by omega, cell_of_heap h3 n (Array.getElem?_eq_getElem (by omega))]
        exact ⟨rfl, free_of_heap h3 n⟩
      · simp only [World.setCells, Nat.mul_one, Nat.zero_add]
        have hw : (w.setCell ⟨g, n, none⟩ (.int .u8 m)).heap[g]? = some (.cells (cur.setIfInBounds n (.int .u8 m)) 5 (0, 0)) := heap_setCell_same h3 _
        have hget : ∀ j, j < n → cur[j]? = some (.int .u8 m) := fun j hj => by
          have := congrArg (·[j]?) h7
          simp only [List.getElem?_take, List.getElem?_replicate, Nat.mul_one, if_pos hj, Array.getElem?_toList] at this
          exact this
        refine hK g c _ ⟨by simp, .inr ⟨g, c, _, rfl, Nat.zero_le _, hw, hroom, h5, by simpa using h6, ?_⟩⟩ ⟨by simp, .inr ⟨g, c, _, rfl, Nat.zero_le _, hw, h4, h5, by simpa using h6, ?_⟩⟩ ?_ (.inl rfl) (lt_of_heap hw)
        · refine List.ext_getElem? fun j => ?_
          rw [List.getElem?_take, List.getElem?_replicate, Nat.mul_one]
          by_cases hj : j < n + 1
          · rw [if_pos hj, if_pos hj, Array.getElem?_toList]
            by_cases e : j = n
            · subst e; rw [Array.getElem?_setIfInBounds_self, if_pos (by omega)]
            · rw [Array.getElem?_setIfInBounds_ne (Ne.symm e)]; exact hget j (by omega)
          · rw [if_neg hj, if_neg hj]
        · refine List.ext_getElem? fun j => ?_
          rw [List.getElem?_take, List.getElem?_replicate, Nat.mul_one]
          by_cases hj : j < n
          · rw [if_pos hj, if_pos hj, Array.getElem?_toList, Array.getElem?_setIfInBounds_ne (by omega)]; exact hget j hj
          · rw [if_neg hj, if_neg hj]
        · exact ⟨rfl, rfl, rfl, by simp [World.setCell], fun k hk hne => heap_setCell_other (fun e => hne (by rw [← e]; rfl)) _⟩
    · refine step_append_grows hg s x 47 hop 5 i1 _ 1 1 Try.underlying47 hi1 hy0 hy1 hy2 rfl (by omega) (some ⟨g, 0, none⟩) n c (List.replicate n (.int .u8 m)) hs (fun h => by cases h) (by simp) (fun b' hb' => by cases hb'; exact hrc) ⟨b, 0, none⟩ 1 cx [.int .u8 m] hx rfl hnews hone (by omega) (by unfold maxLen; omega) (by omega) ?_
      intro v' w' ro gr
      obtain ⟨gg, cap', rfl, hge, hlt⟩ := ro.form (by omega)
      rw [hsnoc] at ro
      have hgl := lt_of_heap h3
      exact hK gg cap' w' (ownsRow_base ro (Nat.zero_le _)) (ownsRow_keep hr fun b hb => by cases hb; exact gr.block g hgl (by simp)) ⟨gr.os, gr.tape, gr.output, gr.size, fun k hk _ => gr.block k hk (by simp)⟩ (.inr hge) hlt

def Booked (w : World) (own : BOwn) (a : Option Addr) (pb bb : Nat) (st : Nat → Option Side) (H : List Hd) (n : Nat) (e : Ending) (w' : World) : Prop :=
  e = .returned (.tuple #[]) ∧ ∃ own' h, h.n = n ∧ BookIs w' own' pb bb st (H ++ [h]) ∧ Mv (fun b => own b ≠ none ∨ Blk a b) w w' ∧ ∀ b, own' b ≠ none → own b ≠ none ∨ Blk a b ∨ w.heap.size ≤ b
theorem grown_size {W w3 : World} {r : Option Nat} {n : Nat} (hg : W.grownBy w3 r) (h : W.heap.size = n) : n ≤ w3.heap.size := by rw [← h]; exact hg.size
theorem alloc_drew_size (w : World) (o : Obj) : ((w.alloc o).drew).heap.size = w.heap.size + 1 := by simp
theorem booked_close {w wr w3 w4 : World} {own : BOwn} {pb bb : Nat} {st : Nat → Option Side} {H : List Hd} {a la : Option Addr} {n c lc gd cd gl cl : Nat} {m : Int} {o1 o2 : Obj} (hB : BookIs w own pb bb st H)
    (h4 : w.heap[bb]? = some (.cells #[.slice la H.length lc] 89 (0, 0))) (h6 : ∀ b, (Value.slice la H.length lc).ownBlock = some b → own b = some .row) (ho : ∀ b, Blk a b → own b = none)
    (hrel : HoldRel w a n c m n wr) (hg1 : ((wr.alloc o1).drew).grownBy w3 (Value.slice a n c).ownBlock) (hr1 : w3.ownsRow 0 5 1 (.slice (some ⟨gd, 0, none⟩) (n + 1) cd) (n + 1) (List.replicate (n + 1) (.int .u8 m)))
    (hr1' : w3.ownsRow 0 5 1 (.slice a n c) n (List.replicate n (.int .u8 m))) (hat1 : (Value.slice a n c).ownBlock = some gd ∨ ((wr.alloc o1).drew).heap.size ≤ gd) (hlt1 : gd < w3.heap.size)
    (hg2 : (w3.alloc o2).grownBy w4 (Value.slice la H.length lc).ownBlock) (hat2 : (Value.slice la H.length lc).ownBlock = some gl ∨ gl = w3.heap.size + 1) (hlt2 : gl < w4.heap.size)
    (hr2 : w4.ownsRow 0 124 3 (.slice (some ⟨gl, 0, none⟩) (H.length + 1) cl) (H.length + 1) (hdCells H ++ [.slice a n c, .slice (some ⟨gd, 0, none⟩) (n + 1) cd, .int .u8 m])) :
    Booked w own a pb bb st H n (.returned (.tuple #[])) (w4.setCell ⟨bb, 0, none⟩ (.slice (some ⟨gl, 0, none⟩) (H.length + 1) cl)) := by
  classical
  obtain ⟨h0, h1, h2, h3, _, _, _, _, h7⟩ := hB
  have hsz0 := hrel.1.size
  have hsz1 : wr.heap.size + 1 ≤ w3.heap.size := by have := hg1.size; simpa using this
  have hsz2 : w3.heap.size + 1 ≤ w4.heap.size := by have := hg2.size; simpa using this
  have hblk : ∀ x, (Value.slice a n c).ownBlock = some x → Blk a x ∧ x < wr.heap.size := fun x hx => by
    rcases hrel.2 with ⟨rfl, _⟩ | ⟨g, cur, rfl, hh, _⟩
    · cases hx
    · cases hx
      exact ⟨rfl, lt_of_heap hh⟩
  have hblk2 : ∀ x, Blk a x → (Value.slice a n c).ownBlock = some x := fun x hx => by
    unfold Blk at hx
    rw [hx]; rfl
  have hgd : Blk a gd ∨ wr.heap.size + 1 ≤ gd := hat1.imp (fun e => (hblk gd e).1) (fun e => by simpa using e)
  have hown : ∀ b t, own b = some t → ¬ Blk a b ∧ b ≠ gd ∧ b < w.heap.size := fun b t hb => by
    have hl := h0 b t hb
    have hnb : ¬ Blk a b := fun e => by rw [ho b e] at hb; cases hb
    refine ⟨hnb, fun e => ?_, hl⟩
    subst e
    rcases hgd with e | e
    · exact hnb e
    · omega
  have hgl : own gl = some .row ∨ gl = w3.heap.size + 1 := hat2.imp (h6 gl) id
  have hgld : gl ≠ gd ∧ ¬ Blk a gl := by
    rcases hgl with e | e
    · exact ⟨(hown gl _ e).2.1, (hown gl _ e).1⟩
    · refine ⟨by omega, fun hb => ?_⟩
      have := (hblk gl (hblk2 gl hb)).2
      omega
  have hstay : ∀ b t, own b = some t → t ≠ .row → w4.heap[b]? = w.heap[b]? := fun b t hb ht => by
    obtain ⟨q1, q2, q3⟩ := hown b t hb
    have s1 : wr.heap[b]? = w.heap[b]? := hrel.1.block b q3 q1
    have s2 : w3.heap[b]? = wr.heap[b]? := (hg1.block b (by simp; omega) (fun e => q1 (hblk b e.symm).1)).trans (Below.heap_alloc wr o1 b (by omega))
    have s3 : w4.heap[b]? = w3.heap[b]? := (hg2.block b (by simp; omega) (fun e => by have := h6 b e.symm; rw [hb] at this; cases this; exact ht rfl)).trans (Below.heap_alloc w3 o2 b (by omega))
    exact (s3.trans s2).trans s1
  have hmv4 : Mv (fun b => own b ≠ none ∨ Blk a b) w w4 := by
    have m1 : Mv (fun b => own b ≠ none ∨ Blk a b) w wr := hrel.1.mono fun b _ hb => .inr hb
    have m2 := ((m1.alloc o1).drew).grown hg1 (fun k hk => .inl (.inr (hblk k hk).1))
    exact (m2.alloc o2).grown hg2 (fun k hk => .inl (.inl (by rw [h6 k hk]; simp)))
  have hdat : ∀ b, (b = gd ∨ Blk a b) → w4.heap[b]? = w3.heap[b]? ∧ b < w3.heap.size ∧ b ≠ bb := fun b hb => by
    have hlt : b < w3.heap.size := by
      rcases hb with rfl | hb
      · exact hlt1
      · have := (hblk b (hblk2 b hb)).2; omega
    refine ⟨(hg2.block b (by simp; omega) (fun e => ?_)).trans (Below.heap_alloc w3 o2 b hlt), hlt, fun e => ?_⟩
    · obtain ⟨q1, q2, _⟩ := hown b _ (h6 b e.symm)
      rcases hb with hb | hb
      · exact q2 hb
      · exact q1 hb
    · obtain ⟨q1, q2, _⟩ := hown b _ (by rw [e]; exact h3)
      rcases hb with hb | hb
      · exact q2 hb
      · exact q1 hb
  have hother : ∀ (u : Value) b, b ≠ bb → (w4.setCell ⟨bb, 0, none⟩ u).heap[b]? = w4.heap[b]? := fun u b hb => heap_setCell_other hb _
  obtain ⟨own', hown'⟩ : ∃ own' : BOwn, own' = fun b => if b = gd ∨ Blk a b then some .dat else if b = gl then some .row else own b := ⟨_, rfl⟩
  have k1 : ∀ b t, own b = some t → own' b = some t := fun b t hb => by
    obtain ⟨q1, q2, _⟩ := hown b t hb
    rw [hown']
    show (if _ then _ else _) = _
    rw [if_neg (by rintro (e | e); exact q2 e; exact q1 e)]
    by_cases e : b = gl
    · rw [if_pos e]
      rcases hgl with e2 | e2
      · rw [e, e2] at hb; exact hb
      · have := h0 b t hb; omega
    · rw [if_neg e]; exact hb
  have k2 : ∀ b, (b = gd ∨ Blk a b) → own' b = some .dat := fun b hb => by
    rw [hown']
    exact if_pos hb
  have k3 : own' gl = some .row := by
    rw [hown']
    show (if _ then _ else _) = _
    rw [if_neg (by rintro (e | e); exact hgld.1 e; exact hgld.2 e), if_pos rfl]
  have k4 : ∀ b, own' b ≠ none → b = gd ∨ Blk a b ∨ b = gl ∨ own b ≠ none := fun b hb => by
    by_cases e1 : b = gd
    · exact .inl e1
    · by_cases e2 : Blk a b
      · exact .inr (.inl e2)
      · by_cases e3 : b = gl
        · exact .inr (.inr (.inl e3))
        · refine .inr (.inr (.inr ?_))
          rw [hown'] at hb
          have : (if b = gd ∨ Blk a b then some BTag.dat else if b = gl then some .row else own b) ≠ none := hb
          rw [if_neg (by rintro (e | e); exact e1 e; exact e2 e), if_neg e3] at this
          exact this
  have hglb : gl ≠ bb := fun e => by
    rcases hgl with e2 | e2
    · rw [e, h3] at e2; cases e2
    · have := h0 bb _ h3; omega
  refine ⟨rfl, own', ⟨a, n, c, some ⟨gd, 0, none⟩, cd, m⟩, rfl, ⟨fun b t hb => ?_, k1 _ _ h1, ?_, k1 _ _ h3, .slice (some ⟨gl, 0, none⟩) (H.length + 1) cl, ?_, ?_, fun b hb => by cases hb; exact k3, fun x hx => ?_⟩, hmv4.setCell (.inl (.inl (by rw [h3]; simp))) _, fun b hb => ?_⟩
  · show b < (w4.setCell _ _).heap.size
    have e : (w4.setCell ⟨bb, 0, none⟩ (.slice (some ⟨gl, 0, none⟩) (H.length + 1) cl)).heap.size = w4.heap.size := by simp [World.setCell]
    rw [e]
    rcases k4 b (by rw [hb]; simp) with e | e | e | e
    · rw [e]; omega
    · have := (hblk b (hblk2 b e)).2; omega
    · rw [e]; exact hlt2
    · obtain ⟨t', ht'⟩ := Option.ne_none_iff_exists'.1 e
      have := h0 b t' ht'; omega
  · rw [hother _ pb (fun e => by rw [e, h3] at h1; cases h1), hstay pb _ h1 (by simp)]
    exact h2
  · exact heap_setCell_same ((hstay bb _ h3 (by simp)).trans h4) _
  · have e : hdCells (H ++ [(⟨a, n, c, some ⟨gd, 0, none⟩, cd, m⟩ : Hd)]) = hdCells H ++ [.slice a n c, .slice (some ⟨gd, 0, none⟩) (n + 1) cd, .int .u8 m] := hdCells_snoc _ _
    rw [e, List.length_append]
    exact ownsRow_keep hr2 fun b hb => by cases hb; exact hother _ _ hglb
  · rcases List.mem_append.1 hx with hx | hx
    · exact (h7 x hx).keep fun b hb => ⟨k1 _ _ hb, (hother _ b (fun e => by rw [e, h3] at hb; cases hb)).trans (hstay b _ hb (by simp))⟩
    · obtain rfl := List.mem_singleton.1 hx
      refine ⟨rowIn_of_row (ownsRow_keep hr1' fun b hb => ?_), rowIn_of_row (ownsRow_keep hr1 fun b hb => ?_), fun _ ad had => ?_, fun ad had => ?_⟩
      · obtain ⟨q1, _, q3⟩ := hdat b (.inr (hblk b hb).1)
        exact (hother _ b q3).trans q1
      · obtain ⟨q1, _, q3⟩ := hdat b (.inl (by cases hb; rfl))
        exact (hother _ b q3).trans q1
      · rcases hrel.2 with ⟨e, _⟩ | ⟨g, cur, e, _⟩
        · rw [e] at had; cases had
        · refine k2 _ (.inr ?_)
          have had' : a = some ad := had
          rw [e] at had'
          cases had'
          exact e
      · have had' : (some ⟨gd, 0, none⟩ : Option Addr) = some ad := had
        cases had'
        exact k2 _ (.inl rfl)
  · rcases k4 b hb with e | e | e | e
    · subst e
      rcases hgd with e | e
      · exact .inr (.inl e)
      · exact .inr (.inr (by omega))
    · exact .inr (.inl e)
    · subst e
      rcases hgl with e | e
      · exact .inl (by rw [e]; simp)
      · exact .inr (.inr (by omega))
    · exact .inl e
set_option maxRecDepth 100000 in
set_option maxHeartbeats 3200000 in
theorem hold_any (w : World) (own : BOwn) (pb bb : Nat) (st : Nat → Option Side) (H : List Hd) (a : Option Addr) (n c : Nat) (h : BookIs w own pb bb st H) (hd : LstIs w a n c) (ho : ∀ b, Blk a b → own b = none)
    (hn : n ≤ 1099511627776) (hl : H.length ≤ 549755813888) :
    Calls Try.prog 59 #[.pointer (some ⟨bb, 0, none⟩), .slice a n c] w (Booked w own a pb bb st H n) := by
  obtain ⟨h0, h1, h2, h3, lv, h4, h5, h6, h7⟩ := id h
  obtain ⟨la, lc, rfl, hsome⟩ := row_shape h5
  obtain ⟨i0, hi0, hz0, hz1, hz2⟩ := info_parts Try.info124
  obtain ⟨i1, hi1, hy0, hy1, hy2⟩ := info_parts Try.info5
  have hbl := lt_of_heap h4
  have hbk : ¬ Blk a bb := fun e => by have := ho bb e; rw [h3] at this; cases this
  obtain ⟨len, hlen⟩ : ∃ n, n = H.length := ⟨_, rfl⟩
  rw [← hlen] at h4 h5 h6 hl hsome
  have q0 : w.cell? ⟨bb, 0, none⟩ = some (.slice la len lc) := cell_of_heap h4 0 rfl
  have HLEN := Lib.hid hlen
  have HH := Lib.hid h
  have H4 := Lib.hid h4
  have H5 := Lib.hid h5
  have H6 := Lib.hid h6
  have HD := Lib.hid hd
  have HO := Lib.hid ho
  have HBK := Lib.hid hbk
  have b1 : (len : Int) ≤ 549755813888 := by omega
  have b2 : (n : Int) ≤ 1099511627776 := by omega
  have e1 : IntKind.i64.wrap ((len : Int) * 7) = (len : Int) * 7 := IntWalk.i64_in _ (by omega)
  have e2 : IntKind.i64.wrap ((len : Int) * 7 + 3) = (len : Int) * 7 + 3 := IntWalk.i64_in _ (by omega)
  obtain ⟨m, hm⟩ : ∃ m, m = ((len : Int) * 7 + 3) % 256 := ⟨_, rfl⟩
  clear h h0 h1 h2 h3 h4 h5 h6 h7 hlen hsome hd ho hbk
  go_enter Try.func59, Try.ntmps59
  go_wp2_with fail
  rw [← hm]
  have HM := Lib.hid hm
  clear hm e1 e2
  go_loopw [5] (fun i wr => ∃ k : Nat, k ≤ n ∧ i = .int .i64 k ∧ HoldRel w a n c m k wr) (fun i _ => n - (intOf i).toNat)
  case atStart => exact ⟨0, Nat.zero_le _, rfl, HoldRel.start HD.out⟩
  case round =>
    obtain ⟨k, hk, rfl, hrel⟩ := hrel
    have HR := Lib.hid hrel
    by_cases hlt : k < n
    · obtain ⟨g, v0, rfl, hv0, hf0⟩ := hrel.at hlt
      have hkk : (k : Int) < n := by omega
      have hk0 : (0 : Int) ≤ k := by omega
      clear hrel
      go_wp2_with fail
      have HS := Lib.hid (HoldRel.step HR.out hlt)
      go_roundw
      case rel => exact ⟨k + 1, by omega, by go_num, HS.out⟩
      case measure => simp [intOf]; omega
    · have hge : ¬ (k : Int) < n := by omega
      obtain rfl : k = n := by omega
      have HROW := Lib.hid hrel.row
      have hbl2 : bb < wr.heap.size := Nat.lt_of_lt_of_le hbl hrel.1.size
      have hbq : wr.heap[bb]? = w.heap[bb]? := hrel.1.block bb hbl HBK.out
      have p0 : wr.cell? ⟨bb, 0, none⟩ = some (.slice la len lc) := cell_of_heap (hbq.trans H4.out) 0 rfl
      have pf : wr.frozen? ⟨bb, 0, none⟩ = false := free_of_heap (hbq.trans H4.out) 0
      have hob : ∀ x, (Value.slice a k c).ownBlock = some x → Blk a x := fun x hx => by
        rcases hrel.2 with ⟨rfl, _⟩ | ⟨g, cur, rfl, _⟩
        · cases hx
        · cases hx; rfl
      have hn1 : (Value.slice a k c).ownBlock ≠ some bb := fun e => HBK.out (hob bb e)
      have hn2 : (Value.slice la len lc).ownBlock = none ∨ (Value.slice la len lc).ownBlock ≠ (Value.slice a k c).ownBlock := by
        cases e : (Value.slice la len lc).ownBlock with
        | none => exact .inl rfl
        | some x =>
          refine .inr fun e2 => ?_
          have q1 := H6.out x (by rw [← e])
          rw [HO.out x (hob x e2.symm)] at q1
          cases q1
      have hn3 : (Value.slice la len lc).ownBlock ≠ some bb := fun e => by
        have q1 := H6.out bb e
        rw [HH.out.2.2.2.1] at q1
        cases q1
      have hrow2 : wr.ownsRow 0 124 3 (.slice la len lc) len (hdCells H) := ownsRow_keep H5.out fun b hb => hrel.1.block b (HH.out.1 b _ (H6.out b hb)) (fun e => by have q1 := H6.out b hb; rw [HO.out b e] at q1; cases q1)
      have HROW2 := Lib.hid hrow2
      have HN1 := Lib.hid hn1
      have HN2 := Lib.hid hn2
      have HN3 := Lib.hid hn3
      clear hrel hbq hob hn1 hn2 hn3 hrow2
      go_wp2_with fail
      go_region_law (first
        | (refine step_mark (by rfl) _ _ (by rfl) a k c m (by rfl) ((HROW.out.alloc _).drew) wr.heap.size 1 (by rfl) (heap_alloc_new wr _) hn ?_; intro gd cd w3 hr1 hr1' hg1 hat1 hlt1; have hsz3 : wr.heap.size + 1 ≤ w3.heap.size := grown_size hg1 (alloc_drew_size wr _); have hbl3 : bb < w3.heap.size := Nat.lt_of_lt_of_le (Nat.lt_succ_of_lt hbl2) hsz3; have hB : w3.heap[bb]? = wr.heap[bb]? := (hg1.block _ (Nat.lt_of_lt_of_le hbl2 (by simp)) (Ne.symm HN1.out)).trans (Below.heap_alloc wr _ _ hbl2); have p3 : w3.cell? ⟨bb, 0, none⟩ = some (.slice la len lc) := (World.cell?_of_block (w := wr) (a := ⟨bb, 0, none⟩) hB).trans p0; have pf3 : w3.frozen? ⟨bb, 0, none⟩ = false := (World.frozen?_of_block (w := wr) (a := ⟨bb, 0, none⟩) hB).trans pf; have HL3 : Hid (w3.ownsRow 0 124 3 (.slice la len lc) len (hdCells H)) := ((HROW2.out.alloc _).drew).kept hg1 HN2.out; have HG1 := Lib.hid hg1; have HR1 := Lib.hid hr1; have HR1' := Lib.hid hr1'; have HAT1 := Lib.hid hat1; clear hB hsz3 hg1 hr1 hr1' hat1)
        | (refine step_append_lies _ (by rfl) _ _ _ (by rfl) 0 124 i0 _ 3 56 Try.underlying87 hi0 hz0 hz1 hz2 rfl (by omega) (.slice la len lc) len (hdCells H) (by rfl) (HL3.out.alloc _) ⟨w3.heap.size, 0, none⟩ 1 1 [.slice a k c, .slice (some ⟨gd, 0, none⟩) (k + 1) cd, .int .u8 m] (by rfl) (by rfl) (World.news_of_block (cs := #[.slice a k c, .slice (some ⟨gd, 0, none⟩) (k + 1) cd, .int .u8 m]) (t := 124) (fr := (0, 0)) (heap_alloc_new w3 _)) (by simp [Value.oneCell']) (by omega) (by unfold maxLen; omega) (by omega) (by simp) (w3.heap.size + 1) (by simp) ?_; intro gl cl w4 hr2 hg2 hat2 hlt2; have hB : w4.heap[bb]? = w3.heap[bb]? := (hg2.block _ (Nat.lt_of_lt_of_le hbl3 (by simp)) (Ne.symm HN3.out)).trans (Below.heap_alloc w3 _ _ hbl3); have p4 : w4.cell? ⟨bb, 0, none⟩ = some (.slice la len lc) := (World.cell?_of_block (w := w3) (a := ⟨bb, 0, none⟩) hB).trans p3; have pf4 : w4.frozen? ⟨bb, 0, none⟩ = false := (World.frozen?_of_block (w := w3) (a := ⟨bb, 0, none⟩) hB).trans pf3; have HG2 := Lib.hid hg2; have HR2 := Lib.hid hr2; have HAT2 := Lib.hid hat2; clear hB hg2 hr2 hat2))
      all_goals
        refine bodyPost_end (results_none rfl _ _ _) rfl ?_
        have e := HLEN.out
        subst e
        exact booked_close HH.out H4.out H6.out HO.out HR.out HG1.out HR1.out HR1'.out HAT1.out hlt1 HG2.out HAT2.out hlt2 HR2.out
end Go.Proofs.Ytadalodjnbnjkaa
