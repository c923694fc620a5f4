/- New, walked. -/
import Derived.Test.YtadalodjnbnjkaaPlay07
import Derived.Laws.AppendOwnNone
import Derived.Deep.QuietTactic
import Derived.BigQuiet
namespace Go.Proofs.Ytadalodjnbnjkaa
open Go.RowKit Go.Conc

theorem may_yes (k n : Int) (w : World) (h : mayF (k, n)) : Calls Try.prog 30 #[.agg #[.int .i64 k, .int .i64 n]] w (mayPost true w) := by
  have := may_any k n w
  rw [show mayB (k, n) = true from decide_eq_true h] at this
  exact this
theorem may_no (k n : Int) (w : World) (h : ¬ mayF (k, n)) : Calls Try.prog 30 #[.agg #[.int .i64 k, .int .i64 n]] w (mayPost false w) := by
  have := may_any k n w
  rw [show mayB (k, n) = false from decide_eq_false h] at this
  exact this

theorem FateIn.still {w w' : World} {fb : Nat} {F : List (Int × Int)} (h : FateIn w fb F) (hm : Mv (fun _ => False) w w') : FateIn w' fb F := fun j hj => by
  have h1 := (h j hj).1
  have h2 := (h j hj).2
  have hb := World.block_lt_of_cell? w _ h1
  exact ⟨(hm.cell (p := ⟨fb, j * 2, none⟩) hb id).trans h1, (hm.cell (p := ⟨fb, j * 2 + 1, none⟩) hb id).trans h2⟩

theorem fateCells_length (F : List (Int × Int)) : (fateCells F).length = F.length * 2 := by
  induction F with
  | nil => rfl
  | cons f F ih => simp only [fateCells, List.flatMap_cons, List.length_append, List.length_cons, List.length_nil] at ih ⊢; omega

/-- The fates' cells, one by one. -/
theorem FateIn.cells {w : World} {fb : Nat} {F : List (Int × Int)} (h : FateIn w fb F) : ∀ j u, (fateCells F)[j]? = some u → w.cell? ((⟨fb, 0, none⟩ : Addr).add j) = some u := by
  intro j u hu
  have e1 : (⟨fb, 0, none⟩ : Addr).add j = ⟨fb, j, none⟩ := by unfold Addr.add; split <;> simp_all
  rw [e1]
  have hj : j < F.length * 2 := by
    have := (List.getElem?_eq_some_iff.1 hu).1
    rwa [fateCells_length] at this
  have hg := fateCells_get F (j / 2) (by omega)
  have hi := h (j / 2) (by omega)
  by_cases he : j % 2 = 0
  · have e : j / 2 * 2 = j := by omega
    rw [e] at hg hi
    rw [hg.1] at hu
    rw [hi.1, Option.some.inj hu]
  · have e : j / 2 * 2 + 1 = j := by omega
    rw [e] at hg hi
    rw [hg.2] at hu
    rw [hi.2, Option.some.inj hu]

theorem ownsRow_base {w : World} {base base' : Nat} {e : TypeId} {size n : Nat} {v : Value} {xs : List Value} (h : w.ownsRow base e size v n xs) (hb : base' ≤ base) : w.ownsRow base' e size v n xs := by
  refine ⟨h.1, ?_⟩
  rcases h.2 with h | ⟨g, c, cur, h1, h2, h3⟩
  · exact .inl h
  · exact .inr ⟨g, c, cur, h1, by omega, h3⟩

theorem new_start {w w1 : World} {F : List (Int × Int)} {fv : Value} (hm : Mv (fun _ => False) w w1) (hown : w1.ownsRow w.heap.size 63 2 fv F.length (fateCells F)) :
    NewRel w w1.heap.size F fv 0 (.slice none 0 0) (w1.alloc (.cells #[.slice none 0 0, fv, .int .i64 0, .int .i64 0, .slice none 0 0] 82)) := by
  have hs := hm.size
  refine ⟨fun b => if b = w1.heap.size then some .net else if fv.ownBlock = some b then some .fates else none, ⟨w1.heap.size, 0, fun _ => 0, fun _ => 0⟩, rfl, ?_, ?_, hm.alloc _, by simp, heap_alloc_new _ _, World.ownsRow_nil _ _ _ _, fun b hb => by simp [Value.ownBlock] at hb, ⟨?_, ?_⟩, fun i hi => by omega⟩
  · intro b t hb
    by_cases e : b = w1.heap.size
    · simp [e]
    · simp only [e, if_false] at hb
      by_cases e2 : fv.ownBlock = some b
      · have := (hown.lt b e2).2
        simp; omega
      · simp [e2] at hb
  · intro b hb
    have e : b ≠ w1.heap.size := by omega
    have e2 : fv.ownBlock ≠ some b := fun e2 => by have := (hown.lt b e2).1; omega
    simp [e, e2]
  · exact (ownsRow_base hown (Nat.zero_le _)).alloc _
  · intro b hb
    have := (hown.lt b hb).2
    have e : b ≠ w1.heap.size := by omega
    simp [e, hb]

theorem new_close {w wr w3 : World} {nb k gg cap : Nat} {F : List (Int × Int)} {fv lv : Value} {own : Own} {A : Ga} (hA : A.net = nb) (h1 : Lies wr own) (h2 : ∀ b, b < w.heap.size → own b = none) (h3 : Mv (fun _ => False) w wr)
    (h4 : own nb = some .net) (h6 : wr.heap[nb]? = some (.cells #[lv, fv, .int .i64 0, .int .i64 0, .slice none 0 0] 82 (0, 0)))
    (h7 : ∀ b, lv.ownBlock = some b → own b = none) (hrow : wr.ownsRow w.heap.size 83 1 lv k ((List.range k).map fun i => .pointer (some ⟨A.q i, 0, none⟩))) (h8 : FatesIs wr own fv F) (h9 : ∀ i, i < k → LaneIs wr own A i lq0 false)
    (hgrow : ((((wr.alloc (.chan 64 #[] false 0 0 false)).alloc (.cells #[.chan (some wr.heap.size), .bool false, .int .i64 0] 86)).alloc (.cells #[.pointer (some ⟨wr.heap.size + 1, 0, none⟩)] 83)).drew).grownBy w3 lv.ownBlock)
    (hown : w3.ownsRow w.heap.size 83 1 (.slice (some ⟨gg, 0, none⟩) (k + 1) cap) (k + 1) (((List.range k).map fun i => .pointer (some ⟨A.q i, 0, none⟩)) ++ [.pointer (some ⟨wr.heap.size + 1, 0, none⟩)]))
    (hat : lv.ownBlock = some gg ∨ gg = wr.heap.size + 1 + 1 + 1) :
    NewRel w nb F fv (k + 1) (.slice (some ⟨gg, 0, none⟩) (k + 1) cap) (w3.setCell ⟨nb, 0, none⟩ (.slice (some ⟨gg, 0, none⟩) (k + 1) cap)) := by
  have hlt : ∀ b, lv.ownBlock = some b → b < wr.heap.size := fun b hb => (hrow.lt b hb).2
  have hnbl : nb < wr.heap.size := lt_of_heap h6
  have hlvn : lv.ownBlock ≠ some nb := fun e => by have := h7 _ e; rw [h4] at this; cases this
  have hs3 : wr.heap.size + 1 + 1 + 1 ≤ w3.heap.size := by have := hgrow.size; simpa [World.drew] using this
  have hblk : ∀ b, b < wr.heap.size + 1 + 1 + 1 → lv.ownBlock ≠ some b → w3.heap[b]? = (((wr.alloc (.chan 64 #[] false 0 0 false)).alloc (.cells #[.chan (some wr.heap.size), .bool false, .int .i64 0] 86)).alloc (.cells #[.pointer (some ⟨wr.heap.size + 1, 0, none⟩)] 83)).heap[b]? :=
    fun b hb hne => hgrow.block b (by simp [World.drew]; omega) (Ne.symm hne)
  have hset : ∀ b, b ≠ nb → (w3.setCell ⟨nb, 0, none⟩ (.slice (some ⟨gg, 0, none⟩) (k + 1) cap)).heap[b]? = w3.heap[b]? := fun b hb => heap_setCell_other hb _
  have hgn : gg ≠ nb := by
    rcases hat with h | h
    · intro e; exact hlvn (by rw [h, e])
    · omega
  refine new_step (q := wr.heap.size + 1) (c := wr.heap.size) (gg := gg) hA h1 h2 h3 h4 (fun b hb => ⟨(hrow.lt b hb).1, h7 b hb, hlt b hb⟩) h8 h9 ?_ ?_ (by omega) (by omega) (by omega) ?_ ?_ ?_ rfl ?_
  · rw [hset _ (by omega), hblk _ (by omega) (fun e => by have := hlt _ e; omega), Below.heap_alloc _ _ _ (by simp)]
    have := heap_alloc_new (wr.alloc (.chan 64 #[] false 0 0 false)) (.cells #[.chan (some wr.heap.size), .bool false, .int .i64 0] 86)
    simpa using this
  · rw [hset _ (by omega), hblk _ (by omega) (fun e => by have := hlt _ e; omega), Below.heap_alloc _ _ _ (by simp; omega), Below.heap_alloc _ _ _ (by simp)]
    exact heap_alloc_new wr _
  · have e : w3.heap[nb]? = some (.cells #[lv, fv, .int .i64 0, .int .i64 0, .slice none 0 0] 82 (0, 0)) := by
      rw [hblk _ (by omega) hlvn, Below.heap_alloc _ _ _ (by simp; omega), Below.heap_alloc _ _ _ (by simp; omega), Below.heap_alloc _ _ _ hnbl]; exact h6
    rw [heap_setCell_same e]; simp
  · have e1 : Mv (fun b => b = nb ∨ lv.ownBlock = some b) wr w3 := ((((Mv.refl _ _).alloc _).alloc _).alloc _).drew.grown hgrow (fun b hb => .inl (.inr hb))
    exact e1.setCell (.inl (.inl rfl)) _
  · exact ownsRow_keep hown fun b hb => by simp [Value.ownBlock] at hb; subst hb; exact hset _ hgn
  · rcases hat with h | h
    · exact .inl h
    · exact .inr (by omega)

set_option maxRecDepth 100000 in
set_option maxHeartbeats 3200000 in
theorem New_ok (w : World) (nl fb nf fc : Nat) (F : List (Int × Int)) (h1 : 1 ≤ nl) (h2 : nl ≤ 64) (hF : F.length = nf) (hlen : nf ≤ 65536) (hmay : ∀ f ∈ F, mayF f) (hin : FateIn w fb F) :
    Calls Try.prog 12 #[.int .i64 nl, .slice (some ⟨fb, 0, none⟩) nf fc] w (Newed w nl F) := by
  obtain ⟨i0, hi0, hz0, hz1, hz2⟩ := info_parts Try.info63
  obtain ⟨i1, hi1, hy0, hy1, hy2⟩ := info_parts Try.info83
  obtain ⟨i2, hi2, hx0, hx1, hx2⟩ := info_parts Try.info47
  have hmk : ∀ W, (Instr.makeChan 84 (.int .i64 64)).run Try.prog W = .ok (.chan (some W.heap.size)) (W.alloc (.chan 64 #[] false 0 0 false)) := fun W => run_makeChan (w := W) (P := Try.prog) Try.underlying84 hi2 .i64 64 (by decide) (by rw [hx2]; decide)
  clear hi2 hx0 hx1 hx2
  have d1 : decide ((nl : Int) < 1) = false := by simp; omega
  have d2 : decide ((nl : Int) > 64) = false := by simp; omega
  have d3 : decide ((nf : Int) > 65536) = false := by simp; omega
  have b1 : (1 : Int) ≤ nl := by omega
  have b2 : (nl : Int) ≤ 64 := by omega
  have b3 : (nf : Int) ≤ 65536 := by omega
  have HMAY := Lib.hid hmay
  have HIN := Lib.hid hin
  have HF := Lib.hid hF
  clear hmay hin hF
  go_enter Try.func12, Try.ntmps12
  go_wp2_with fail
  go_loopw [20] (fun i wr => ∃ k : Nat, k ≤ nf ∧ i = .int .i64 k ∧ Mv (fun _ => False) w wr) (fun i _ => nf - (intOf i).toNat)
  case atStart => exact ⟨0, Nat.zero_le _, rfl, Mv.refl _ _⟩
  case round =>
    obtain ⟨k, hk, rfl, hm⟩ := hrel
    by_cases hlt : k < nf
    · have hc := (HIN.out.still hm) k (by rw [HF.out]; exact hlt)
      have hmk' : mayF ((F.getD k (0, 0)).1, (F.getD k (0, 0)).2) := by
        have hl : k < F.length := by rw [HF.out]; exact hlt
        rw [List.getD_eq_getElem?_getD, List.getElem?_eq_getElem hl]
        exact HMAY.out _ (List.getElem_mem hl)
      obtain ⟨fk, hfk⟩ : ∃ fk, fk = (F.getD k (0, 0)).1 := ⟨_, rfl⟩
      obtain ⟨fn, hfn⟩ : ∃ fn, fn = (F.getD k (0, 0)).2 := ⟨_, rfl⟩
      rw [← hfk, ← hfn] at hc hmk'
      obtain ⟨c1, c2⟩ := hc
      have HM := Lib.hid hm
      have HMK := Lib.hid hmk'
      clear hfk hfn hm hmk'
      have hkk : (k : Int) < nf := by omega
      have hbl := World.block_lt_of_cell? wr _ c1
      go_wp2_with (go_at_call 30; refine (may_yes fk fn _ HMK.out).mono ?_; rintro e w' ⟨rfl, hb⟩)
      go_roundw
      case rel => exact ⟨k + 1, by omega, by go_num, (HM.out.alloc _).trans (Mv.of_below hb)⟩
      case measure => simp [intOf]; omega
    · have hge : (nf : Int) ≤ k := by omega
      have HM := Lib.hid hm
      have hin2 := HIN.out.still hm
      have HIN2 := Lib.hid hin2
      clear hm hin2
      go_wp2_with (at_builtin; refine wpList_append_own _ rfl _ _ 64 rfl w.heap.size 63 i0 _ 2 16 Try.underlying64 hi0 hz0 hz1 hz2 rfl (by decide) _ _ _ rfl (World.ownsRow_nil _ _ _ _) ⟨fb, 0, none⟩ nf fc (fateCells F) rfl ?c0 ?c1 ?c2 ?c3 ?c4 ?c5 ?_)
      case c0 => rw [fateCells_length, HF.out]
      case c1 => exact HIN2.out.cells
      case c2 =>
        intro x hx
        simp only [fateCells, List.mem_flatMap] at hx
        obtain ⟨f, _, hf⟩ := hx
        simp at hf
        rcases hf with rfl | rfl <;> rfl
      case c3 => unfold maxLen; omega
      case c4 => omega
      case c5 => exact HM.out.size
      intro fv w1 hown hgrow hnv
      obtain ⟨fa, fn, fcap, rfl⟩ : ∃ a n c, fv = .slice a n c := by
        rcases hown.2 with ⟨h, _⟩ | ⟨g, c, cur, h, _⟩
        · exact ⟨_, _, _, h⟩
        · exact ⟨_, _, _, h⟩
      have hm1 : Mv (fun _ => False) w w1 := HM.out.grown hgrow (fun k hk => by simp [Value.ownBlock] at hk)
      have hS := new_start hm1 (by rw [HF.out]; simpa using hown)
      have HS := Lib.hid hS
      clear hnv hown hgrow hS
      have HM1 := Lib.hid hm1
      clear hm1
      go_wp2_with fail
      go_loopw [33] (fun i wr => ∃ k : Nat, k ≤ nl ∧ i = .int .i64 k ∧ ∃ lv, NewRel w w1.heap.size F (.slice fa fn fcap) k lv wr) (fun i _ => nl - (intOf i).toNat)
      case atStart => exact ⟨0, Nat.zero_le _, rfl, _, HS.out⟩
      case round =>
        obtain ⟨k, hk, rfl, lv, hrel⟩ := hrel
        by_cases hlt : k < nl
        · obtain ⟨own, A, q1, q2, q3, q4, q5, q6, q7, q8, q9, q10⟩ := hrel
          have hkk : (k : Int) < nl := by omega
          have c0 : wr.cell? ⟨w1.heap.size, 0, none⟩ = some lv := cell_of_heap q6 0 rfl
          have cf : wr.frozen? ⟨w1.heap.size, 0, none⟩ = false := free_of_heap q6 0
          have hnl1 : w1.heap.size < wr.heap.size := lt_of_heap q6
          have hne1 : w1.heap.size ≠ wr.heap.size := by omega
          have hne2 : w1.heap.size ≠ wr.heap.size + 1 := by omega
          have hne3 : w1.heap.size ≠ wr.heap.size + 1 + 1 := by omega
          have hlt2 : w1.heap.size < wr.heap.size + 1 := by omega
          have hlt3 : w1.heap.size < wr.heap.size + 1 + 1 := by omega
          have hlt4 : w1.heap.size < wr.heap.size + 1 + 1 + 1 := by omega
          have hlvn : lv.ownBlock ≠ some w1.heap.size := fun e => by have := q8 _ e; rw [q5] at this; cases this
          have hbs : w.heap.size ≤ wr.heap.size := q4.size
          have Q1 := Lib.hid q1
          have Q2 := Lib.hid q2
          have Q3 := Lib.hid q3
          have Q4 := Lib.hid q4
          have Q5 := Lib.hid q5
          have Q6 := Lib.hid q6
          have Q7 := Lib.hid q7
          have Q8 := Lib.hid q8
          have Q9 := Lib.hid q9
          have Q10 := Lib.hid q10
          have hnew : ∀ o, ((((wr.alloc (.chan 64 #[] false 0 0 false)).alloc (.cells #[.chan (some wr.heap.size), .bool false, .int .i64 0] 86)).alloc o).drew).heap[wr.heap.size + 1 + 1]? = some o := fun o => by
            have e : ((wr.alloc (.chan 64 #[] false 0 0 false)).alloc (.cells #[.chan (some wr.heap.size), .bool false, .int .i64 0] 86)).heap.size = wr.heap.size + 1 + 1 := by simp
            show (((wr.alloc (.chan 64 #[] false 0 0 false)).alloc (.cells #[.chan (some wr.heap.size), .bool false, .int .i64 0] 86)).alloc o).heap[_]? = _
            rw [← e]
            exact heap_alloc_new _ o
          have hold : ∀ o b, b < wr.heap.size → ((((wr.alloc (.chan 64 #[] false 0 0 false)).alloc (.cells #[.chan (some wr.heap.size), .bool false, .int .i64 0] 86)).alloc o).drew).heap[b]? = wr.heap[b]? := fun o b hb => by
            show (((wr.alloc (.chan 64 #[] false 0 0 false)).alloc (.cells #[.chan (some wr.heap.size), .bool false, .int .i64 0] 86)).alloc o).heap[b]? = _
            rw [Below.heap_alloc _ _ _ (by simp; omega), Below.heap_alloc _ _ _ (by simp; omega), Below.heap_alloc _ _ _ hb]
          clear q1 q2 q3 q4 q5 q6 q7 q8 q9 q10
          go_wp2_with fail
          go_region_law (refine step_append_lies _ (by rfl) _ _ _ (by rfl) w.heap.size 83 i1 _ 1 8 Try.underlying79 hi1 hy0 hy1 hy2 rfl (by omega) lv k ((List.range k).map fun i => .pointer (some ⟨A.q i, 0, none⟩)) (by rfl) ((((Q7.out.alloc _).alloc _).alloc _).drew) ⟨wr.heap.size + 1 + 1, 0, none⟩ 1 1 [.pointer (some ⟨wr.heap.size + 1, 0, none⟩)] (by rfl) (by rfl) (World.news_of_block (cs := #[.pointer (some ⟨wr.heap.size + 1, 0, none⟩)]) (t := 83) (fr := (0, 0)) (hnew _)) (by simp [Value.oneCell']) (by omega) (by unfold maxLen; omega) (by omega) (by simp; omega) (wr.heap.size + 1 + 1 + 1) (by simp) ?_; intro gg cap w3 hown1 hgrow hat hlt; have hB : w3.heap[w1.heap.size]? = wr.heap[w1.heap.size]? := (hgrow.block _ (by simp; omega) (Ne.symm hlvn)).trans (hold _ _ hnl1); have q0 : w3.cell? ⟨w1.heap.size, 0, none⟩ = some lv := (World.cell?_of_block (w := wr) hB).trans c0; have qf : w3.frozen? ⟨w1.heap.size, 0, none⟩ = false := (World.frozen?_of_block (w := wr) hB).trans cf; have HB := Lib.hid hB; clear hB)
          all_goals
            have hR := new_close Q1.out Q2.out Q3.out Q4.out Q5.out Q6.out Q8.out Q7.out Q9.out Q10.out hgrow hown1 hat
            have HR := Lib.hid hR
            clear hgrow hown1 hat hR
            go_wp2
            go_roundw
            case rel => exact ⟨k + 1, by omega, by go_num, _, HR.out⟩
            case measure => simp [intOf]; omega
        · have hge2 : (nl : Int) ≤ k := by omega
          have HR := Lib.hid hrel
          clear hrel
          go_wp2
          go_ret2
          obtain rfl : k = nl := by omega
          exact new_end HR.out (by omega)
end Go.Proofs.Ytadalodjnbnjkaa

/- New without fates. -/
namespace Go.Proofs.Ytadalodjnbnjkaa
open Go.RowKit Go.Conc

set_option maxRecDepth 100000 in
set_option maxHeartbeats 3200000 in
theorem New_nil (w : World) (nl : Nat) (h1 : 1 ≤ nl) (h2 : nl ≤ 64) :
    Calls Try.prog 12 #[.int .i64 nl, .slice none 0 0] w (Newed w nl []) := by
  obtain ⟨i0, hi0, hz0, hz1, hz2⟩ := info_parts Try.info63
  obtain ⟨i1, hi1, hy0, hy1, hy2⟩ := info_parts Try.info83
  obtain ⟨i2, hi2, hx0, hx1, hx2⟩ := info_parts Try.info47
  have hmk : ∀ W, (Instr.makeChan 84 (.int .i64 64)).run Try.prog W = .ok (.chan (some W.heap.size)) (W.alloc (.chan 64 #[] false 0 0 false)) := fun W => run_makeChan (w := W) (P := Try.prog) Try.underlying84 hi2 .i64 64 (by decide) (by rw [hx2]; decide)
  clear hi2 hx0 hx1 hx2
  have d1 : decide ((nl : Int) < 1) = false := by simp; omega
  have d2 : decide ((nl : Int) > 64) = false := by simp; omega
  have b1 : (1 : Int) ≤ nl := by omega
  have b2 : (nl : Int) ≤ 64 := by omega
  go_enter Try.func12, Try.ntmps12
  go_wp2_with fail
  go_loopw [20] (fun i wr => i = .int .i64 0 ∧ w = wr) (fun _ _ => 0)
  case atStart => exact ⟨rfl, rfl⟩
  case round =>
      obtain ⟨rfl, rfl⟩ := hrel
      go_wp2_with (at_builtin; refine wpList_append_own_none rfl _ _ 64 rfl w.heap.size 63 i0 2 Try.underlying64 hi0 _ _ _ rfl (World.ownsRow_nil _ _ _ _) rfl ?_)
      have hS := new_start (w := w) (w1 := w) (F := []) (fv := .slice none 0 0) (Mv.refl _ _) (World.ownsRow_nil _ _ _ _)
      have HS := Lib.hid hS
      clear hS
      go_wp2_with fail
      go_loopw [33] (fun i wr => ∃ k : Nat, k ≤ nl ∧ i = .int .i64 k ∧ ∃ lv, NewRel w w.heap.size [] (.slice none 0 0) k lv wr) (fun i _ => nl - (intOf i).toNat)
      case atStart => exact ⟨0, Nat.zero_le _, rfl, _, HS.out⟩
      case round =>
        obtain ⟨k, hk, rfl, lv, hrel⟩ := hrel
        by_cases hlt : k < nl
        · obtain ⟨own, A, q1, q2, q3, q4, q5, q6, q7, q8, q9, q10⟩ := hrel
          have hkk : (k : Int) < nl := by omega
          have c0 : wr.cell? ⟨w.heap.size, 0, none⟩ = some lv := cell_of_heap q6 0 rfl
          have cf : wr.frozen? ⟨w.heap.size, 0, none⟩ = false := free_of_heap q6 0
          have hnl1 : w.heap.size < wr.heap.size := lt_of_heap q6
          have hne1 : w.heap.size ≠ wr.heap.size := by omega
          have hne2 : w.heap.size ≠ wr.heap.size + 1 := by omega
          have hne3 : w.heap.size ≠ wr.heap.size + 1 + 1 := by omega
          have hlt2 : w.heap.size < wr.heap.size + 1 := by omega
          have hlt3 : w.heap.size < wr.heap.size + 1 + 1 := by omega
          have hlt4 : w.heap.size < wr.heap.size + 1 + 1 + 1 := by omega
          have hlvn : lv.ownBlock ≠ some w.heap.size := fun e => by have := q8 _ e; rw [q5] at this; cases this
          have hbs : w.heap.size ≤ wr.heap.size := q4.size
          have Q1 := Lib.hid q1
          have Q2 := Lib.hid q2
          have Q3 := Lib.hid q3
          have Q4 := Lib.hid q4
          have Q5 := Lib.hid q5
          have Q6 := Lib.hid q6
          have Q7 := Lib.hid q7
          have Q8 := Lib.hid q8
          have Q9 := Lib.hid q9
          have Q10 := Lib.hid q10
          have hnew : ∀ o, ((((wr.alloc (.chan 64 #[] false 0 0 false)).alloc (.cells #[.chan (some wr.heap.size), .bool false, .int .i64 0] 86)).alloc o).drew).heap[wr.heap.size + 1 + 1]? = some o := fun o => by
            have e : ((wr.alloc (.chan 64 #[] false 0 0 false)).alloc (.cells #[.chan (some wr.heap.size), .bool false, .int .i64 0] 86)).heap.size = wr.heap.size + 1 + 1 := by simp
            show (((wr.alloc (.chan 64 #[] false 0 0 false)).alloc (.cells #[.chan (some wr.heap.size), .bool false, .int .i64 0] 86)).alloc o).heap[_]? = _
            rw [← e]
            exact heap_alloc_new _ o
          have hold : ∀ o b, b < wr.heap.size → ((((wr.alloc (.chan 64 #[] false 0 0 false)).alloc (.cells #[.chan (some wr.heap.size), .bool false, .int .i64 0] 86)).alloc o).drew).heap[b]? = wr.heap[b]? := fun o b hb => by
            show (((wr.alloc (.chan 64 #[] false 0 0 false)).alloc (.cells #[.chan (some wr.heap.size), .bool false, .int .i64 0] 86)).alloc o).heap[b]? = _
            rw [Below.heap_alloc _ _ _ (by simp; omega), Below.heap_alloc _ _ _ (by simp; omega), Below.heap_alloc _ _ _ hb]
          clear q1 q2 q3 q4 q5 q6 q7 q8 q9 q10
          go_wp2_with fail
          go_region_law (refine step_append_lies _ (by rfl) _ _ _ (by rfl) w.heap.size 83 i1 _ 1 8 Try.underlying79 hi1 hy0 hy1 hy2 rfl (by omega) lv k ((List.range k).map fun i => .pointer (some ⟨A.q i, 0, none⟩)) (by rfl) ((((Q7.out.alloc _).alloc _).alloc _).drew) ⟨wr.heap.size + 1 + 1, 0, none⟩ 1 1 [.pointer (some ⟨wr.heap.size + 1, 0, none⟩)] (by rfl) (by rfl) (World.news_of_block (cs := #[.pointer (some ⟨wr.heap.size + 1, 0, none⟩)]) (t := 83) (fr := (0, 0)) (hnew _)) (by simp [Value.oneCell']) (by omega) (by unfold maxLen; omega) (by omega) (by simp; omega) (wr.heap.size + 1 + 1 + 1) (by simp) ?_; intro gg cap w3 hown1 hgrow hat hlt; have hB : w3.heap[w.heap.size]? = wr.heap[w.heap.size]? := (hgrow.block _ (by simp; omega) (Ne.symm hlvn)).trans (hold _ _ hnl1); have q0 : w3.cell? ⟨w.heap.size, 0, none⟩ = some lv := (World.cell?_of_block (w := wr) hB).trans c0; have qf : w3.frozen? ⟨w.heap.size, 0, none⟩ = false := (World.frozen?_of_block (w := wr) hB).trans cf; have HB := Lib.hid hB; clear hB)
          all_goals
            have hR := new_close Q1.out Q2.out Q3.out Q4.out Q5.out Q6.out Q8.out Q7.out Q9.out Q10.out hgrow hown1 hat
            have HR := Lib.hid hR
            clear hgrow hown1 hat hR
            go_wp2
            go_roundw
            case rel => exact ⟨k + 1, by omega, by go_num, _, HR.out⟩
            case measure => simp [intOf]; omega
        · have hge2 : (nl : Int) ≤ k := by omega
          have HR := Lib.hid hrel
          clear hrel
          go_wp2
          go_ret2
          obtain rfl : k = nl := by omega
          exact new_end HR.out (by omega)
end Go.Proofs.Ytadalodjnbnjkaa

/- The statements' own small functions. -/
namespace Go.Proofs.Ytadalodjnbnjkaa
open Go.RowKit Go.Conc

theorem num_any (x : Int) (w : World) : Calls Try.prog 13 #[.int .i64 x] w fun e w' => e = .returned (.int .i64 x) ∧ w = w' := by
  go_enter Try.func13, Try.ntmps13
  go_wp2
  go_ret
  exact ⟨rfl, rfl⟩
theorem New_nil_1 (w : World) : Calls Try.prog 12 #[.int .i64 1, .slice none 0 0] w (Newed w 1 []) := New_nil w 1 (by omega) (by omega)
theorem New_nil_2 (w : World) : Calls Try.prog 12 #[.int .i64 2, .slice none 0 0] w (Newed w 2 []) := New_nil w 2 (by omega) (by omega)
theorem New_nil_8 (w : World) : Calls Try.prog 12 #[.int .i64 8, .slice none 0 0] w (Newed w 8 []) := New_nil w 8 (by omega) (by omega)
end Go.Proofs.Ytadalodjnbnjkaa

/- short, lent, same: bytes that are read, copied, compared. -/
namespace Go.Proofs.Ytadalodjnbnjkaa
open Go.RowKit Go.Conc

/-- The slice reads l. -/
def RowIn (w : World) (a : Option Addr) (n : Nat) (l : List Int) : Prop :=
  l.length = n ∧ (n = 0 ∨ ∃ b off, a = some ⟨b, off, none⟩ ∧ ∀ j, j < n → w.cell? ⟨b, off + j, none⟩ = some (.int .u8 (l.getD j 0)))
theorem RowIn.still {w w' : World} {a : Option Addr} {n : Nat} {l : List Int} (h : RowIn w a n l) (hb : Below w.heap.size w w') : RowIn w' a n l := by
  refine ⟨h.1, h.2.imp id ?_⟩
  rintro ⟨b, off, h1, h2⟩
  refine ⟨b, off, h1, fun j hj => ?_⟩
  have := h2 j hj
  rw [hb.cell (p := ⟨b, off + j, none⟩) (World.block_lt_of_cell? w _ this)]
  exact this
theorem RowIn.of_msg {w : World} {g : Nat} {v : Value} {l : List Int} (h : MsgAt w g v l) : ∃ c, v = .slice (some ⟨g, 0, none⟩) l.length c ∧ RowIn w (some ⟨g, 0, none⟩) l.length l := by
  obtain ⟨c, cur, rfl, _⟩ := id h
  exact ⟨c, rfl, rfl, .inr ⟨g, 0, rfl, fun j hj => by have := cell_msg h hj; simpa using this⟩⟩

theorem short_le (w : World) (a : Option Addr) (n c : Nat) (h : n ≤ 4096) :
    Calls Try.prog 23 #[.slice a n c] w fun e w' => e = .returned (.slice a n c) ∧ w = w' := by
  have d : decide ((n : Int) > 4096) = false := by simp; omega
  have d2 : (n : Int) ≤ 4096 := by omega
  go_enter Try.func23, Try.ntmps23
  go_wp2
  go_ret
  exact ⟨rfl, rfl⟩
theorem short_gt (w : World) (ad : Addr) (n c : Nat) (h : 4096 < n) (hc : n ≤ c) :
    Calls Try.prog 23 #[.slice (some ad) n c] w fun e w' => e = .returned (.slice (some ad) 4096 c) ∧ w = w' := by
  have d : decide ((n : Int) > 4096) = true := by simp; omega
  have d2 : (4096 : Int) < n := by omega
  have d3 : (4096 : Int) ≤ c := by omega
  go_enter Try.func23, Try.ntmps23
  go_wp2
  go_ret
  exact ⟨rfl, rfl⟩

/-- What lent leaves: a new block, the bytes, 200 marks behind them. -/
def Lent (w : World) (l : List Int) (n : Nat) (e : Ending) (w' : World) : Prop :=
  ∃ g cur, e = .returned (.slice (some ⟨g, 0, none⟩) (n + 200) (n + 200)) ∧ w.heap.size ≤ g ∧ Below w.heap.size w w' ∧ w'.heap[g]? = some (.cells cur 5 (0, 0)) ∧
    cur.size = n + 200 ∧ (∀ j, j < n → cur[j]? = some (.int .u8 (l.getD j 0))) ∧ ∀ j, n ≤ j → j < n + 200 → cur[j]? = some (.int .u8 199)

def LentRel (w : World) (l : List Int) (n g i k : Nat) (wr : World) : Prop :=
  ∃ cur, Below w.heap.size w wr ∧ wr.heap[g]? = some (.cells cur 5 (0, 0)) ∧ cur.size = n + 200 ∧ (∀ j, j < i → cur[j]? = some (.int .u8 (l.getD j 0))) ∧ ∀ j, n ≤ j → j < k → cur[j]? = some (.int .u8 199)

theorem LentRel.byte {w wr : World} {l : List Int} {n g i : Nat} (h : LentRel w l n g i n wr) (hi : i < n) (hg : w.heap.size ≤ g) : LentRel w l n g (i + 1) n (wr.setCell ⟨g, i, none⟩ (.int .u8 (l.getD i 0))) := by
  obtain ⟨cur, h1, h2, h3, h4, h5⟩ := h
  refine ⟨cur.setIfInBounds i (.int .u8 (l.getD i 0)), h1.setCell hg _, heap_setCell_same h2 _, by simpa using h3, fun j hj => ?_, fun j hj hk => by omega⟩
  by_cases e : j = i
  · subst e; rw [Array.getElem?_setIfInBounds_self, if_pos (by omega)]
  · rw [Array.getElem?_setIfInBounds_ne (Ne.symm e)]; exact h4 j (by omega)
theorem LentRel.mark {w wr : World} {l : List Int} {n g k : Nat} (h : LentRel w l n g n k wr) (hk : n ≤ k) (hk2 : k < n + 200) (hg : w.heap.size ≤ g) : LentRel w l n g n (k + 1) (wr.setCell ⟨g, k, none⟩ (.int .u8 199)) := by
  obtain ⟨cur, h1, h2, h3, h4, h5⟩ := h
  refine ⟨cur.setIfInBounds k (.int .u8 199), h1.setCell hg _, heap_setCell_same h2 _, by simpa using h3, fun j hj => ?_, fun j hj hk' => ?_⟩
  · rw [Array.getElem?_setIfInBounds_ne (by omega)]; exact h4 j hj
  · by_cases e : j = k
    · subst e; rw [Array.getElem?_setIfInBounds_self, if_pos (by omega)]
    · rw [Array.getElem?_setIfInBounds_ne (Ne.symm e)]; exact h5 j hj (by omega)
theorem LentRel.old {w wr : World} {l : List Int} {n g i k j : Nat} (h : LentRel w l n g i k wr) (hj : j < n + 200) : ∃ v, wr.cell? ⟨g, j, none⟩ = some v ∧ wr.frozen? ⟨g, j, none⟩ = false := by
  obtain ⟨cur, h1, h2, h3, h4, h5⟩ := h
  exact ⟨_, cell_of_heap h2 j (Array.getElem?_eq_getElem (by omega)), free_of_heap h2 j⟩

set_option maxHeartbeats 1600000 in
theorem lent_any (w : World) (a : Option Addr) (n c : Nat) (l : List Int) (h : RowIn w a n l) (hsz : n ≤ 1099511627776) :
    Calls Try.prog 24 #[.slice a n c] w (Lent w l n) := by
  obtain ⟨i0, hi, hz0, hz1, hz2⟩ := info_parts Try.info5
  have HR := Lib.hid h
  clear h
  have b1 : (n : Int) ≤ 1099511627776 := by omega
  go_enter Try.func24, Try.ntmps24
  go_wp2_with (at_make; refine wpList_make_full _ rfl _ _ 47 rfl w.heap.size 5 i0 _ 1 Try.underlying47 hi hz0 hz1 .i64 .i64 ((n : Int) + 200) ((n : Int) + 200) (n + 200) rfl rfl (by omega) (by omega) (by rw [hz2]; omega) (by unfold maxLen; omega) (Nat.le_refl _) ?_)
  intro w1 hown hgrow
  have hS : LentRel w l n w.heap.size 0 n w1 := by
    obtain ⟨g, cap, cur, hv, hb, hg, h1, h2, h3, h4⟩ := hown.2.resolve_left (fun h => by cases h.1)
    cases hv
    exact ⟨cur, (Below.refl _ _).grown hgrow (Nat.le_refl _) (fun k hk => by cases hk), hg, by omega, fun j hj => by omega, fun j hj hk => by omega⟩
  have HS := Lib.hid hS
  clear hown hgrow hS hi hz0 hz1 hz2
  go_wp2_with fail
  go_loopw [4] (fun i wr => ∃ k : Nat, k ≤ n ∧ i = .int .i64 k ∧ LentRel w l n w.heap.size k n wr) (fun i _ => n - (intOf i).toNat)
  case atStart => exact ⟨0, Nat.zero_le _, rfl, HS.out⟩
  case round =>
    obtain ⟨k, hk, rfl, hrel⟩ := hrel
    have HQ := Lib.hid hrel
    clear hrel
    by_cases hlt : k < n
    · obtain ⟨b, off, ha, hc⟩ := (HR.out.still (id HQ.out : LentRel w l n w.heap.size k n _).choose_spec.1).2.resolve_left (by omega)
      subst ha
      have hck := hc k hlt
      obtain ⟨v0, hv0, hf0⟩ := LentRel.old HQ.out (j := k) (by omega)
      have hkk : (k : Int) < n := by omega
      have hkk2 : (k : Int) < (n : Int) + 200 := by omega
      obtain ⟨x, hx⟩ : ∃ x, x = l.getD k 0 := ⟨_, rfl⟩
      rw [← hx] at hck
      have HX := Lib.hid hx
      clear hc hx
      go_wp2
      have hR := LentRel.byte HQ.out hlt (Nat.le_refl _)
      rw [← HX.out] at hR
      have HRR := Lib.hid hR
      go_roundw
      case rel => exact ⟨k + 1, by omega, by go_num, HRR.out⟩
      case measure => simp [intOf]; omega
    · have hge : (n : Int) ≤ k := by omega
      obtain rfl : k = n := by omega
      clear hlt
      go_wp2_with fail
      go_loopw [5] (fun i wr => ∃ j : Nat, k ≤ j ∧ j ≤ k + 200 ∧ i = .int .i64 j ∧ LentRel w l k w.heap.size k j wr) (fun i _ => k + 200 - (intOf i).toNat)
      case atStart => exact ⟨k, Nat.le_refl _, by omega, rfl, HQ.out⟩
      case round =>
        obtain ⟨j, hj1, hj2, rfl, hrel⟩ := hrel
        have HQ2 := Lib.hid hrel
        clear hrel
        by_cases hlt : j < k + 200
        · obtain ⟨v0, hv0, hf0⟩ := LentRel.old HQ2.out (j := j) hlt
          have hjj : (j : Int) < (k : Int) + 200 := by omega
          have hj0 : (0 : Int) ≤ j := by omega
          go_wp2
          have HRR := Lib.hid (LentRel.mark HQ2.out hj1 hlt (Nat.le_refl _))
          go_roundw
          case rel => exact ⟨j + 1, by omega, by omega, by go_num, HRR.out⟩
          case measure => simp [intOf]; omega
        · have hjj : ¬ (j : Int) < (k : Int) + 200 := by omega
          obtain rfl : j = k + 200 := by omega
          go_wp2
          go_ret
          obtain ⟨cur, q1, q2, q3, q4, q5⟩ := HQ2.out
          exact ⟨w.heap.size, cur, rfl, Nat.le_refl _, q1, q2, q3, q4, q5⟩
end Go.Proofs.Ytadalodjnbnjkaa

/- same: two slices of bytes, compared. -/
namespace Go.Proofs.Ytadalodjnbnjkaa
open Go.RowKit Go.Conc

def sameB (a b : List Int) : Bool := decide (a = b)
theorem sameB_self (a : List Int) : sameB a a = true := by simp [sameB]
/-- What same leaves: the answer; the world but for draws. -/
def SameP (w : World) (b : Bool) (e : Ending) (w' : World) : Prop := e = .returned (.bool b) ∧ ∃ d, w' = w.drewN d

theorem take_succ_eq {a b : List Int} {k : Nat} (ha : k < a.length) (hb : k < b.length) (h : a.take k = b.take k) (he : a.getD k 0 = b.getD k 0) : a.take (k + 1) = b.take (k + 1) := by
  rw [List.take_succ_eq_append_getElem ha, List.take_succ_eq_append_getElem hb, h]
  rw [List.getD_eq_getElem?_getD, List.getD_eq_getElem?_getD, List.getElem?_eq_getElem ha, List.getElem?_eq_getElem hb] at he
  simp only [Option.getD_some] at he
  rw [he]

set_option maxHeartbeats 1600000 in
theorem same_any (w : World) (a1 a2 : Option Addr) (n1 c1 n2 c2 : Nat) (l1 l2 : List Int) (h1 : RowIn w a1 n1 l1) (h2 : RowIn w a2 n2 l2) (hs1 : n1 ≤ 1099511627776) :
    Calls Try.prog 22 #[.slice a1 n1 c1, .slice a2 n2 c2] w (SameP w (sameB l1 l2)) := by
  have b1 : (n1 : Int) ≤ 1099511627776 := by omega
  by_cases hn : n1 = n2
  · subst hn
    have hne : ((n1 : Int) != (n1 : Int)) = false := by simp
    have H1 := Lib.hid h1
    have H2 := Lib.hid h2
    clear h1 h2
    go_enter Try.func22, Try.ntmps22
    go_wp2_with fail
    go_loopw [5] (fun i wr => ∃ k : Nat, k ≤ n1 ∧ i = .int .i64 k ∧ l1.take k = l2.take k ∧ ∃ d, wr = w.drewN d) (fun i _ => n1 - (intOf i).toNat)
    case atStart => exact ⟨0, Nat.zero_le _, rfl, rfl, 0, rfl⟩
    case round =>
      obtain ⟨k, hk, rfl, heq, d, rfl⟩ := hrel
      have HEQ := Lib.hid heq
      clear heq
      by_cases hlt : k < n1
      · obtain ⟨p1, o1, rfl, hc1⟩ := H1.out.2.resolve_left (by omega)
        obtain ⟨p2, o2, rfl, hc2⟩ := H2.out.2.resolve_left (by omega)
        have hx := hc1 k hlt
        have hy := hc2 k hlt
        obtain ⟨x, hxe⟩ : ∃ x, x = l1.getD k 0 := ⟨_, rfl⟩
        obtain ⟨y, hye⟩ : ∃ y, y = l2.getD k 0 := ⟨_, rfl⟩
        rw [← hxe] at hx
        rw [← hye] at hy
        have HX := Lib.hid hxe
        have HY := Lib.hid hye
        have hkk : (k : Int) < n1 := by omega
        have hk0 : (0 : Int) ≤ k := by omega
        clear hc1 hc2 hxe hye
        by_cases hxy : x = y
        · subst hxy
          have hb : (x != x) = false := by simp
          go_wp2_with fail
          go_quiet (fail)
          go_wp2_with fail
          go_roundw
          case rel => exact ⟨k + 1, by omega, by go_num, take_succ_eq (by rw [H1.out.1]; exact hlt) (by rw [H2.out.1]; exact hlt) HEQ.out (by rw [← HX.out, ← HY.out]), _, rfl⟩
          case measure => simp [intOf]; omega
        · have hb : (x != y) = true := by simpa using hxy
          have HXY := Lib.hid hxy
          clear hxy
          go_wp2_with fail
          go_quiet (fail)
          go_wp2_with fail
          go_ret
          refine ⟨?_, _, World.drewN_drewN _ _ _⟩
          have : sameB l1 l2 = false := by
            unfold sameB
            refine decide_eq_false fun e => HXY.out ?_
            rw [HX.out, HY.out, e]
          rw [this]; rfl
      · have hge : (n1 : Int) ≤ k := by omega
        go_wp2
        go_ret
        refine ⟨?_, d, rfl⟩
        have : sameB l1 l2 = true := by
          have e := HEQ.out
          rw [List.take_of_length_le (by rw [H1.out.1]; omega), List.take_of_length_le (by rw [H2.out.1]; omega)] at e
          rw [e]; exact sameB_self _
        rw [this]; rfl
  · have hne : ((n1 : Int) != (n2 : Int)) = true := by simp; omega
    have : sameB l1 l2 = false := by
      unfold sameB
      refine decide_eq_false fun e => hn ?_
      rw [← h1.1, ← h2.1, e]
    rw [this]
    clear h1 h2 this
    go_enter Try.func22, Try.ntmps22
    go_wp2
    go_ret
    exact ⟨rfl, 0, rfl⟩
end Go.Proofs.Ytadalodjnbnjkaa

/- A net that a statement holds: every call on it, in one word each. -/
namespace Go.Proofs.Ytadalodjnbnjkaa
open Go.RowKit Go.Conc

/-- Memory reads as the net N at A; nothing that was there in w is the net's; K: further blocks that are not the net's. -/
def Holds (w : World) (A : Ga) (N : Nt) (K : List Nat) (wr : World) : Prop :=
  ∃ own, NetIs wr own A N ∧ Mv (fun _ => False) w wr ∧ (∀ b, b < w.heap.size → own b = none) ∧ ∀ b ∈ K, own b = none ∧ b < wr.heap.size

/-- What a call leaves of the blocks that are not the net's. -/
def Kept (w : World) (K : List Nat) (wr w' : World) : Prop := wr.heap.size ≤ w'.heap.size ∧ ∀ b, (b ∈ K ∨ b < w.heap.size) → w'.heap[b]? = wr.heap[b]?

theorem RowIn.keep {w w' : World} {a : Option Addr} {n : Nat} {l : List Int} (h : RowIn w a n l) (hk : ∀ ad, a = some ad → w'.heap[ad.block]? = w.heap[ad.block]?) : RowIn w' a n l := by
  refine ⟨h.1, h.2.imp id ?_⟩
  rintro ⟨b, off, h1, h2⟩
  refine ⟨b, off, h1, fun j hj => ?_⟩
  rw [World.cell?_of_block (w := w) (a := ⟨b, off + j, none⟩) (hk ⟨b, off, none⟩ h1)]
  exact h2 j hj

section
variable {w wr : World} {A : Ga} {N : Nt} {K : List Nat}

theorem Holds.start {own : Own} (h : NetIs wr own A N) (hb : Below w.heap.size w wr) (ho : ∀ b, b < w.heap.size → own b = none) : Holds w A N [] wr :=
  ⟨own, h, Mv.of_below hb, ho, fun b hb => by simp at hb⟩
theorem Holds.below (h : Holds w A N K wr) : Below w.heap.size w wr := by
  obtain ⟨own, h1, h2, h3, h4⟩ := h
  exact h2.below
theorem Holds.sub {K' : List Nat} (h : Holds w A N K wr) (hs : ∀ b ∈ K', b ∈ K) : Holds w A N K' wr := by
  obtain ⟨own, h1, h2, h3, h4⟩ := h
  exact ⟨own, h1, h2, h3, fun b hb => h4 b (hs b hb)⟩
theorem Holds.still {w' : World} (h : Holds w A N K wr) (hm : Mv (fun _ => False) wr w') : Holds w A N K w' := by
  obtain ⟨own, h1, h2, h3, h4⟩ := h
  exact ⟨own, h1.still hm, h2.trans hm, h3, fun b hb => ⟨(h4 b hb).1, Nat.lt_of_lt_of_le (h4 b hb).2 hm.size⟩⟩
/-- A new block joins. -/
theorem Holds.new {w' : World} {g : Nat} (h : Holds w A N K wr) (hm : Mv (fun _ => False) wr w') (hg : wr.heap.size ≤ g) (hg2 : g < w'.heap.size) : Holds w A N (g :: K) w' := by
  obtain ⟨own, h1, h2, h3, h4⟩ := h
  refine ⟨own, h1.still hm, h2.trans hm, h3, fun b hb => ?_⟩
  rcases List.mem_cons.1 hb with rfl | hb
  · exact ⟨h1.1.none hg, hg2⟩
  · exact ⟨(h4 b hb).1, Nat.lt_of_lt_of_le (h4 b hb).2 hm.size⟩
theorem Kept.still {w' : World} (hm : Mv (fun _ => False) wr w') (h : Holds w A N K wr) : Kept w K wr w' := by
  obtain ⟨own, h1, h2, h3, h4⟩ := h
  refine ⟨hm.size, fun b hb => hm.block b ?_ id⟩
  rcases hb with hb | hb
  · exact (h4 b hb).2
  · exact Nat.lt_of_lt_of_le hb h2.size

/-- The end of a call on the net. -/
def HeldC (w : World) (A : Ga) (N' : Nt) (K : List Nat) (wr : World) (e₀ e : Ending) (w' : World) : Prop := e = e₀ ∧ Holds w A N' K w' ∧ Kept w K wr w'

theorem Holds.left {own : Own} {N' : Nt} {e₀ e : Ending} {w' : World} (h2 : Mv (fun _ => False) w wr) (h3 : ∀ b, b < w.heap.size → own b = none) (h4 : ∀ b ∈ K, own b = none ∧ b < wr.heap.size)
    (hL : Leaves wr own A N' e₀ e w') : HeldC w A N' K wr e₀ e w' := by
  obtain ⟨he, own', r1, r2, r3⟩ := hL
  have hs := h2.size
  refine ⟨he, ⟨own', r1, h2.trans' r2 (fun b hb hh => hh (h3 b hb)), fun b hb => r3 b (by omega) (h3 b hb), fun b hb => ⟨r3 b (h4 b hb).2 (h4 b hb).1, Nat.lt_of_lt_of_le (h4 b hb).2 r2.size⟩⟩, r2.size, fun b hb => ?_⟩
  rcases hb with hb | hb
  · exact r2.block b (h4 b hb).2 (by unfold Own.has; rw [(h4 b hb).1]; simp)
  · exact r2.block b (by omega) (by unfold Own.has; rw [h3 b hb]; simp)

theorem Holds.send (h : Holds w A N K wr) (hf : Fit N) (i : Nat) (hi : i < N.nl) (hop : (N.lane i).closed = false) (ad : Addr) (n cap : Nat) (l : List Int) (hl : n ≤ 1048576) (hcap : n ≤ cap) (hr : RowIn wr (some ad) n l)
    (hk : ad.block ∈ K ∨ ad.block < w.heap.size) :
    Calls Try.prog 18 #[.pointer (some ⟨A.net, 0, none⟩), .int .i64 i, .slice (some ad) n cap] wr (HeldC w A (N.send i l) K wr (.returned (.int .i64 0))) := by
  obtain ⟨own, h1, h2, h3, h4⟩ := h
  have hon : own ad.block = none ∧ ad.block < wr.heap.size := by
    rcases hk with hk | hk
    · exact h4 _ hk
    · exact ⟨h3 _ hk, Nat.lt_of_lt_of_le hk h2.size⟩
  have hm : MsgIn wr own ad l := by
    refine ⟨hon.1, hon.2, fun j u hj => ?_⟩
    obtain ⟨hj1, rfl⟩ := ub_get hj
    rcases hr.2 with hz | ⟨b, off, he, hc⟩
    · have := hr.1; omega
    · cases he
      have := hc j (by rw [← hr.1]; exact hj1)
      have e1 : (⟨b, off, none⟩ : Addr).add j = ⟨b, off + j, none⟩ := by unfold Addr.add; split <;> simp_all
      rw [e1]; exact this
  exact (Send_ok wr own A N i ad n cap l h1 hf hi hop hr.1 hl hcap hm).mono fun e w' hL => Holds.left h2 h3 h4 hL

theorem Holds.close (h : Holds w A N K wr) (i : Nat) (hi : i < N.nl) (hop : (N.lane i).closed = false) :
    Calls Try.prog 25 #[.pointer (some ⟨A.net, 0, none⟩), .int .i64 i] wr (HeldC w A (N.closed i) K wr (.returned (.int .i64 0))) := by
  obtain ⟨own, h1, h2, h3, h4⟩ := h
  exact (Close_ok wr own A N i h1 hi hop).mono fun e w' hL => Holds.left h2 h3 h4 hL
theorem Holds.pass (h : Holds w A N K wr) (hf : Fine N) (t : Nat) (ht : t ≤ 65536) :
    Calls Try.prog 39 #[.pointer (some ⟨A.net, 0, none⟩), .int .i64 t] wr (HeldC w A (N.ticks t) K wr (.returned (.int .i64 0))) := by
  obtain ⟨own, h1, h2, h3, h4⟩ := h
  exact (Pass_ok wr own A N t h1 hf ht).mono fun e w' hL => Holds.left h2 h3 h4 hL
theorem Holds.sendClosed (h : Holds w A N K wr) (i : Nat) (hi : i < N.nl) (hop : (N.lane i).closed = true) (v : Value) :
    Calls Try.prog 18 #[.pointer (some ⟨A.net, 0, none⟩), .int .i64 i, v] wr fun e w' => e = .returned (.int .i64 191) ∧ wr = w' := by
  obtain ⟨own, h1, h2, h3, h4⟩ := h
  exact Send_closed wr own A N i v h1 hi hop
theorem Holds.closeClosed (h : Holds w A N K wr) (i : Nat) (hi : i < N.nl) (hop : (N.lane i).closed = true) :
    Calls Try.prog 25 #[.pointer (some ⟨A.net, 0, none⟩), .int .i64 i] wr fun e w' => e = .returned (.int .i64 191) ∧ wr = w' := by
  obtain ⟨own, h1, h2, h3, h4⟩ := h
  exact Close_closed wr own A N i h1 hi hop
theorem Holds.now (h : Holds w A N K wr) : Calls Try.prog 16 #[.pointer (some ⟨A.net, 0, none⟩)] wr fun e w' => e = .returned (.int .i64 N.now) ∧ wr = w' := by
  obtain ⟨own, ⟨h0, cap, fv, lv, q1, q2⟩, h2, h3, h4⟩ := h
  exact now_any wr A.net N.now (cell_of_heap q1.2 3 rfl)
theorem Holds.waiting (h : Holds w A N K wr) (i : Nat) (hi : i < N.nl) : Calls Try.prog 15 #[.pointer (some ⟨A.net, 0, none⟩), .int .i64 i] wr fun e w' => e = .returned (.tuple #[.int .i64 (N.lane i).buf.length, .int .i64 0]) ∧ wr = w' := by
  obtain ⟨own, ⟨h0, cap, fv, lv, q1, q2, q3, q4, q5⟩, h2, h3, h4⟩ := h
  obtain ⟨a1, a2, a3, vs, sn, rn, a4, a5⟩ := q5 i hi
  have := waiting_any wr A.net A.arr N.nl cap (A.q i) (A.c i) 64 sn rn i vs _ (cell_of_heap q1.2 0 rfl) hi (q2.cell hi) (cell_of_heap a3 0 rfl) a4
  rw [a5.1] at this
  exact this

/-- A message that was waited for. -/
def WaitH (w : World) (A : Ga) (R : Wr) (m : List Int) (K : List Nat) (wr : World) (e : Ending) (w' : World) : Prop :=
  ∃ g c, e = .returned (.tuple #[.slice (some ⟨g, 0, none⟩) m.length c, .int .i64 R.err]) ∧ RowIn w' (some ⟨g, 0, none⟩) m.length m ∧ Holds w A R.net (g :: K) w' ∧ Kept w K wr w'
def WaitN (w : World) (A : Ga) (R : Wr) (K : List Nat) (wr : World) (e : Ending) (w' : World) : Prop :=
  e = .returned (.tuple #[.slice none 0 0, .int .i64 R.err]) ∧ Holds w A R.net K w' ∧ Kept w K wr w'

theorem Holds.wait (h : Holds w A N K wr) (hf : Fine N) (i t : Nat) (hi : i < N.nl) (ht : t ≤ 65536) (m : List Int) (hm : (Nt.waitGo [i] t N).msg = some m) :
    Calls Try.prog 19 #[.pointer (some ⟨A.net, 0, none⟩), .int .i64 i, .int .i64 t] wr (WaitH w A (Nt.waitGo [i] t N) m K wr) := by
  obtain ⟨own, h1, h2, h3, h4⟩ := h
  refine (Wait_ok wr own A N i t h1 hf hi ht).mono ?_
  rintro e w' ⟨v, rfl, own', r1, r2, r3, r4⟩
  rw [hm] at r4
  obtain ⟨g, q1, q2, q3⟩ := r4
  obtain ⟨c, rfl, hrow⟩ := RowIn.of_msg q1
  have hs := h2.size
  refine ⟨g, c, rfl, hrow, ⟨own', r1, h2.trans' r2 (fun b hb hh => hh (h3 b hb)), fun b hb => r3 b (by omega) (h3 b hb), fun b hb => ?_⟩, r2.size, fun b hb => ?_⟩
  · rcases List.mem_cons.1 hb with rfl | hb
    · exact ⟨q2, q1.lt⟩
    · exact ⟨r3 b (h4 b hb).2 (h4 b hb).1, Nat.lt_of_lt_of_le (h4 b hb).2 r2.size⟩
  · rcases hb with hb | hb
    · exact r2.block b (h4 b hb).2 (by unfold Own.has; rw [(h4 b hb).1]; simp)
    · exact r2.block b (by omega) (by unfold Own.has; rw [h3 b hb]; simp)
theorem Holds.waitNone (h : Holds w A N K wr) (hf : Fine N) (i t : Nat) (hi : i < N.nl) (ht : t ≤ 65536) (hm : (Nt.waitGo [i] t N).msg = none) :
    Calls Try.prog 19 #[.pointer (some ⟨A.net, 0, none⟩), .int .i64 i, .int .i64 t] wr (WaitN w A (Nt.waitGo [i] t N) K wr) := by
  obtain ⟨own, h1, h2, h3, h4⟩ := h
  refine (Wait_ok wr own A N i t h1 hf hi ht).mono ?_
  rintro e w' ⟨v, rfl, own', r1, r2, r3, r4⟩
  rw [hm] at r4
  obtain rfl := r4
  have hs := h2.size
  refine ⟨rfl, ⟨own', r1, h2.trans' r2 (fun b hb hh => hh (h3 b hb)), fun b hb => r3 b (by omega) (h3 b hb), fun b hb => ⟨r3 b (h4 b hb).2 (h4 b hb).1, Nat.lt_of_lt_of_le (h4 b hb).2 r2.size⟩⟩, r2.size, fun b hb => ?_⟩
  rcases hb with hb | hb
  · exact r2.block b (h4 b hb).2 (by unfold Own.has; rw [(h4 b hb).1]; simp)
  · exact r2.block b (by omega) (by unfold Own.has; rw [h3 b hb]; simp)
end
end Go.Proofs.Ytadalodjnbnjkaa
