/- New, walked. -/
import Derived.Test.YtadalodjnbnjkaaNew
import Derived.Laws.AppendOwnNone
namespace Go.Proofs.Ytadalodjnbnjkaa
open Go.RowKit Go.Conc

theorem may_yes (k n : Int) (w : World) (h : mayF (k, n)) : Calls Try.prog 30 #[.agg #[.int .i64 k, .int .i64 n]] w (mayPost true w) := by
  have := may_any k n w
  rw [show mayB (k, n) = true from decide_eq_true h] at this
  exact this
theorem may_no (k n : Int) (w : World) (h : ¬ mayF (k, n)) : Calls Try.prog 30 #[.agg #[.int .i64 k, .int .i64 n]] w (mayPost false w) := by
  have := may_any k n w
  rw [show mayB (k, n) = false from decide_eq_false h] at this
  exact this

theorem FateIn.still {w w' : World} {fb : Nat} {F : List (Int × Int)} (h : FateIn w fb F) (hm : Mv (fun _ => False) w w') : FateIn w' fb F := fun j hj => by
  have h1 := (h j hj).1
  have h2 := (h j hj).2
  have hb := World.block_lt_of_cell? w _ h1
  exact ⟨(hm.cell (p := ⟨fb, j * 2, none⟩) hb id).trans h1, (hm.cell (p := ⟨fb, j * 2 + 1, none⟩) hb id).trans h2⟩

theorem fateCells_length (F : List (Int × Int)) : (fateCells F).length = F.length * 2 := by
  induction F with
  | nil => rfl
  | cons f F ih => simp only [fateCells, List.flatMap_cons, List.length_append, List.length_cons, List.length_nil] at ih ⊢; omega

/-- The fates' cells, one by one. -/
theorem FateIn.cells {w : World} {fb : Nat} {F : List (Int × Int)} (h : FateIn w fb F) : ∀ j u, (fateCells F)[j]? = some u → w.cell? ((⟨fb, 0, none⟩ : Addr).add j) = some u := by
  intro j u hu
  have e1 : (⟨fb, 0, none⟩ : Addr).add j = ⟨fb, j, none⟩ := by unfold Addr.add; split <;> simp_all
  rw [e1]
  have hj : j < F.length * 2 := by
    have := (List.getElem?_eq_some_iff.1 hu).1
    rwa [fateCells_length] at this
  have hg := fateCells_get F (j / 2) (by omega)
  have hi := h (j / 2) (by omega)
  by_cases he : j % 2 = 0
  · have e : j / 2 * 2 = j := by omega
    rw [e] at hg hi
    rw [hg.1] at hu
    rw [hi.1, Option.some.inj hu]
  · have e : j / 2 * 2 + 1 = j := by omega
    rw [e] at hg hi
    rw [hg.2] at hu
    rw [hi.2, Option.some.inj hu]

theorem ownsRow_base {w : World} {base base' : Nat} {e : TypeId} {size n : Nat} {v : Value} {xs : List Value} (h : w.ownsRow base e size v n xs) (hb : base' ≤ base) : w.ownsRow base' e size v n xs := by
  refine ⟨h.1, ?_⟩
  rcases h.2 with h | ⟨g, c, cur, h1, h2, h3⟩
  · exact .inl h
  · exact .inr ⟨g, c, cur, h1, by omega, h3⟩

theorem new_start {w w1 : World} {F : List (Int × Int)} {fv : Value} (hm : Mv (fun _ => False) w w1) (hown : w1.ownsRow w.heap.size 63 2 fv F.length (fateCells F)) :
    NewRel w w1.heap.size F fv 0 (.slice none 0 0) (w1.alloc (.cells #[.slice none 0 0, fv, .int .i64 0, .int .i64 0, .slice none 0 0] 82)) := by
  have hs := hm.size
  refine ⟨fun b => if b = w1.heap.size then some .net else if fv.ownBlock = some b then some .fates else none, ⟨w1.heap.size, 0, fun _ => 0, fun _ => 0⟩, rfl, ?_, ?_, hm.alloc _, by simp, heap_alloc_new _ _, World.ownsRow_nil _ _ _ _, fun b hb => by simp [Value.ownBlock] at hb, ⟨?_, ?_⟩, fun i hi => by omega⟩
  · intro b t hb
    by_cases e : b = w1.heap.size
    · simp [e]
    · simp only [e, if_false] at hb
      by_cases e2 : fv.ownBlock = some b
      · have := (hown.lt b e2).2
        simp; omega
      · simp [e2] at hb
  · intro b hb
    have e : b ≠ w1.heap.size := by omega
    have e2 : fv.ownBlock ≠ some b := fun e2 => by have := (hown.lt b e2).1; omega
    simp [e, e2]
  · exact (ownsRow_base hown (Nat.zero_le _)).alloc _
  · intro b hb
    have := (hown.lt b hb).2
    have e : b ≠ w1.heap.size := by omega
    simp [e, hb]

theorem new_close {w wr w3 : World} {nb k gg cap : Nat} {F : List (Int × Int)} {fv lv : Value} {own : Own} {A : Ga} (hA : A.net = nb) (h1 : Lies wr own) (h2 : ∀ b, b < w.heap.size → own b = none) (h3 : Mv (fun _ => False) w wr)
    (h4 : own nb = some .net) (h6 : wr.heap[nb]? = some (.cells #[lv, fv, .int .i64 0, .int .i64 0, .slice none 0 0] 82 (0, 0)))
    (h7 : ∀ b, lv.ownBlock = some b → own b = none) (hrow : wr.ownsRow w.heap.size 83 1 lv k ((List.range k).map fun i => .pointer (some ⟨A.q i, 0, none⟩))) (h8 : FatesIs wr own fv F) (h9 : ∀ i, i < k → LaneIs wr own A i lq0 false)
    (hgrow : ((((wr.alloc (.chan 64 #[] false 0 0 false)).alloc (.cells #[.chan (some wr.heap.size), .bool false, .int .i64 0] 86)).alloc (.cells #[.pointer (some ⟨wr.heap.size + 1, 0, none⟩)] 83)).drew).grownBy w3 lv.ownBlock)
    (hown : w3.ownsRow w.heap.size 83 1 (.slice (some ⟨gg, 0, none⟩) (k + 1) cap) (k + 1) (((List.range k).map fun i => .pointer (some ⟨A.q i, 0, none⟩)) ++ [.pointer (some ⟨wr.heap.size + 1, 0, none⟩)]))
    (hat : lv.ownBlock = some gg ∨ gg = wr.heap.size + 1 + 1 + 1) :
    NewRel w nb F fv (k + 1) (.slice (some ⟨gg, 0, none⟩) (k + 1) cap) (w3.setCell ⟨nb, 0, none⟩ (.slice (some ⟨gg, 0, none⟩) (k + 1) cap)) := by
  have hlt : ∀ b, lv.ownBlock = some b → b < wr.heap.size := fun b hb => (hrow.lt b hb).2
  have hnbl : nb < wr.heap.size := lt_of_heap h6
  have hlvn : lv.ownBlock ≠ some nb := fun e => by have := h7 _ e; rw [h4] at this; cases this
  have hs3 : wr.heap.size + 1 + 1 + 1 ≤ w3.heap.size := by have := hgrow.size; simpa [World.drew] using this
  have hblk : ∀ b, b < wr.heap.size + 1 + 1 + 1 → lv.ownBlock ≠ some b → w3.heap[b]? = (((wr.alloc (.chan 64 #[] false 0 0 false)).alloc (.cells #[.chan (some wr.heap.size), .bool false, .int .i64 0] 86)).alloc (.cells #[.pointer (some ⟨wr.heap.size + 1, 0, none⟩)] 83)).heap[b]? :=
    fun b hb hne => hgrow.block b (by simp [World.drew]; omega) (Ne.symm hne)
  have hset : ∀ b, b ≠ nb → (w3.setCell ⟨nb, 0, none⟩ (.slice (some ⟨gg, 0, none⟩) (k + 1) cap)).heap[b]? = w3.heap[b]? := fun b hb => heap_setCell_other hb _
  have hgn : gg ≠ nb := by
    rcases hat with h | h
    · intro e; exact hlvn (by rw [h, e])
    · omega
  refine new_step (q := wr.heap.size + 1) (c := wr.heap.size) (gg := gg) hA h1 h2 h3 h4 (fun b hb => ⟨(hrow.lt b hb).1, h7 b hb, hlt b hb⟩) h8 h9 ?_ ?_ (by omega) (by omega) (by omega) ?_ ?_ ?_ rfl ?_
  · rw [hset _ (by omega), hblk _ (by omega) (fun e => by have := hlt _ e; omega), Below.heap_alloc _ _ _ (by simp)]
    have := heap_alloc_new (wr.alloc (.chan 64 #[] false 0 0 false)) (.cells #[.chan (some wr.heap.size), .bool false, .int .i64 0] 86)
    simpa using this
  · rw [hset _ (by omega), hblk _ (by omega) (fun e => by have := hlt _ e; omega), Below.heap_alloc _ _ _ (by simp; omega), Below.heap_alloc _ _ _ (by simp)]
    exact heap_alloc_new wr _
  · have e : w3.heap[nb]? = some (.cells #[lv, fv, .int .i64 0, .int .i64 0, .slice none 0 0] 82 (0, 0)) := by
      rw [hblk _ (by omega) hlvn, Below.heap_alloc _ _ _ (by simp; omega), Below.heap_alloc _ _ _ (by simp; omega), Below.heap_alloc _ _ _ hnbl]; exact h6
    rw [heap_setCell_same e]; simp
  · have e1 : Mv (fun b => b = nb ∨ lv.ownBlock = some b) wr w3 := ((((Mv.refl _ _).alloc _).alloc _).alloc _).drew.grown hgrow (fun b hb => .inl (.inr hb))
    exact e1.setCell (.inl (.inl rfl)) _
  · exact ownsRow_keep hown fun b hb => by simp [Value.ownBlock] at hb; subst hb; exact hset _ hgn
  · rcases hat with h | h
    · exact .inl h
    · exact .inr (by omega)

set_option maxRecDepth 100000 in
set_option maxHeartbeats 3200000 in
theorem New_ok (w : World) (nl fb nf fc : Nat) (F : List (Int × Int)) (h1 : 1 ≤ nl) (h2 : nl ≤ 64) (hF : F.length = nf) (hlen : nf ≤ 65536) (hmay : ∀ f ∈ F, mayF f) (hin : FateIn w fb F) :
    Calls Try.prog 12 #[.int .i64 nl, .slice (some ⟨fb, 0, none⟩) nf fc] w (Newed w nl F) := by
  obtain ⟨i0, hi0, hz0, hz1, hz2⟩ := info_parts Try.info63
  obtain ⟨i1, hi1, hy0, hy1, hy2⟩ := info_parts Try.info83
  obtain ⟨i2, hi2, hx0, hx1, hx2⟩ := info_parts Try.info47
  have hmk : ∀ W, (Instr.makeChan 84 (.int .i64 64)).run Try.prog W = .ok (.chan (some W.heap.size)) (W.alloc (.chan 64 #[] false 0 0 false)) := fun W => run_makeChan (w := W) (P := Try.prog) Try.underlying84 hi2 .i64 64 (by decide) (by rw [hx2]; decide)
  clear hi2 hx0 hx1 hx2
  have d1 : decide ((nl : Int) < 1) = false := by simp; omega
  have d2 : decide ((nl : Int) > 64) = false := by simp; omega
  have d3 : decide ((nf : Int) > 65536) = false := by simp; omega
  have b1 : (1 : Int) ≤ nl := by omega
  have b2 : (nl : Int) ≤ 64 := by omega
  have b3 : (nf : Int) ≤ 65536 := by omega
  have HMAY := Lib.hid hmay
  have HIN := Lib.hid hin
  have HF := Lib.hid hF
  clear hmay hin hF
  go_enter Try.func12, Try.ntmps12
  go_wp2_with fail
  go_loopw [20] (fun i wr => ∃ k : Nat, k ≤ nf ∧ i = .int .i64 k ∧ Mv (fun _ => False) w wr) (fun i _ => nf - (intOf i).toNat)
  case atStart => exact ⟨0, Nat.zero_le _, rfl, Mv.refl _ _⟩
  case round =>
    obtain ⟨k, hk, rfl, hm⟩ := hrel
    by_cases hlt : k < nf
    · have hc := (HIN.out.still hm) k (by rw [HF.out]; exact hlt)
      have hmk' : mayF ((F.getD k (0, 0)).1, (F.getD k (0, 0)).2) := by
        have hl : k < F.length := by rw [HF.out]; exact hlt
        rw [List.getD_eq_getElem?_getD, List.getElem?_eq_getElem hl]
        exact HMAY.out _ (List.getElem_mem hl)
      obtain ⟨fk, hfk⟩ : ∃ fk, fk = (F.getD k (0, 0)).1 := ⟨_, rfl⟩
      obtain ⟨fn, hfn⟩ : ∃ fn, fn = (F.getD k (0, 0)).2 := ⟨_, rfl⟩
      rw [← hfk, ← hfn] at hc hmk'
      obtain ⟨c1, c2⟩ := hc
      have HM := Lib.hid hm
      have HMK := Lib.hid hmk'
      clear hfk hfn hm hmk'
      have hkk : (k : Int) < nf := by omega
      have hbl := World.block_lt_of_cell? wr _ c1
      go_wp2_with (go_at_call 30; refine (may_yes fk fn _ HMK.out).mono ?_; rintro e w' ⟨rfl, hb⟩)
      go_roundw
      case rel => exact ⟨k + 1, by omega, by go_num, (HM.out.alloc _).trans (Mv.of_below hb)⟩
      case measure => simp [intOf]; omega
    · have hge : (nf : Int) ≤ k := by omega
      have HM := Lib.hid hm
      have hin2 := HIN.out.still hm
      have HIN2 := Lib.hid hin2
      clear hm hin2
      go_wp2_with (at_builtin; refine wpList_append_own _ rfl _ _ 64 rfl w.heap.size 63 i0 _ 2 16 Try.underlying64 hi0 hz0 hz1 hz2 rfl (by decide) _ _ _ rfl (World.ownsRow_nil _ _ _ _) ⟨fb, 0, none⟩ nf fc (fateCells F) rfl ?c0 ?c1 ?c2 ?c3 ?c4 ?c5 ?_)
      case c0 => rw [fateCells_length, HF.out]
      case c1 => exact HIN2.out.cells
      case c2 =>
        intro x hx
        simp only [fateCells, List.mem_flatMap] at hx
        obtain ⟨f, _, hf⟩ := hx
        simp at hf
        rcases hf with rfl | rfl <;> rfl
      case c3 => unfold maxLen; omega
      case c4 => omega
      case c5 => exact HM.out.size
      intro fv w1 hown hgrow hnv
      obtain ⟨fa, fn, fcap, rfl⟩ : ∃ a n c, fv = .slice a n c := by
        rcases hown.2 with ⟨h, _⟩ | ⟨g, c, cur, h, _⟩
        · exact ⟨_, _, _, h⟩
        · exact ⟨_, _, _, h⟩
      have hm1 : Mv (fun _ => False) w w1 := HM.out.grown hgrow (fun k hk => by simp [Value.ownBlock] at hk)
      have hS := new_start hm1 (by rw [HF.out]; simpa using hown)
      have HS := Lib.hid hS
      clear hnv hown hgrow hS
      have HM1 := Lib.hid hm1
      clear hm1
      go_wp2_with fail
      go_loopw [33] (fun i wr => ∃ k : Nat, k ≤ nl ∧ i = .int .i64 k ∧ ∃ lv, NewRel w w1.heap.size F (.slice fa fn fcap) k lv wr) (fun i _ => nl - (intOf i).toNat)
      case atStart => exact ⟨0, Nat.zero_le _, rfl, _, HS.out⟩
      case round =>
        obtain ⟨k, hk, rfl, lv, hrel⟩ := hrel
        by_cases hlt : k < nl
        · obtain ⟨own, A, q1, q2, q3, q4, q5, q6, q7, q8, q9, q10⟩ := hrel
          have hkk : (k : Int) < nl := by omega
          have c0 : wr.cell? ⟨w1.heap.size, 0, none⟩ = some lv := cell_of_heap q6 0 rfl
          have cf : wr.frozen? ⟨w1.heap.size, 0, none⟩ = false := free_of_heap q6 0
          have hnl1 : w1.heap.size < wr.heap.size := lt_of_heap q6
          have hne1 : w1.heap.size ≠ wr.heap.size := by omega
          have hne2 : w1.heap.size ≠ wr.heap.size + 1 := by omega
          have hne3 : w1.heap.size ≠ wr.heap.size + 1 + 1 := by omega
          have hlt2 : w1.heap.size < wr.heap.size + 1 := by omega
          have hlt3 : w1.heap.size < wr.heap.size + 1 + 1 := by omega
          have hlt4 : w1.heap.size < wr.heap.size + 1 + 1 + 1 := by omega
          have hlvn : lv.ownBlock ≠ some w1.heap.size := fun e => by have := q8 _ e; rw [q5] at this; cases this
          have hbs : w.heap.size ≤ wr.heap.size := q4.size
          have Q1 := Lib.hid q1
          have Q2 := Lib.hid q2
          have Q3 := Lib.hid q3
          have Q4 := Lib.hid q4
          have Q5 := Lib.hid q5
          have Q6 := Lib.hid q6
          have Q7 := Lib.hid q7
          have Q8 := Lib.hid q8
          have Q9 := Lib.hid q9
          have Q10 := Lib.hid q10
          have hnew : ∀ o, ((((wr.alloc (.chan 64 #[] false 0 0 false)).alloc (.cells #[.chan (some wr.heap.size), .bool false, .int .i64 0] 86)).alloc o).drew).heap[wr.heap.size + 1 + 1]? = some o := fun o => by
            have e : ((wr.alloc (.chan 64 #[] false 0 0 false)).alloc (.cells #[.chan (some wr.heap.size), .bool false, .int .i64 0] 86)).heap.size = wr.heap.size + 1 + 1 := by simp
            show (((wr.alloc (.chan 64 #[] false 0 0 false)).alloc (.cells #[.chan (some wr.heap.size), .bool false, .int .i64 0] 86)).alloc o).heap[_]? = _
            rw [← e]
            exact heap_alloc_new _ o
          have hold : ∀ o b, b < wr.heap.size → ((((wr.alloc (.chan 64 #[] false 0 0 false)).alloc (.cells #[.chan (some wr.heap.size), .bool false, .int .i64 0] 86)).alloc o).drew).heap[b]? = wr.heap[b]? := fun o b hb => by
            show (((wr.alloc (.chan 64 #[] false 0 0 false)).alloc (.cells #[.chan (some wr.heap.size), .bool false, .int .i64 0] 86)).alloc o).heap[b]? = _
            rw [Below.heap_alloc _ _ _ (by simp; omega), Below.heap_alloc _ _ _ (by simp; omega), Below.heap_alloc _ _ _ hb]
          clear q1 q2 q3 q4 q5 q6 q7 q8 q9 q10
          go_wp2_with fail
          go_region_law (refine step_append_lies _ (by rfl) _ _ _ (by rfl) w.heap.size 83 i1 _ 1 8 Try.underlying79 hi1 hy0 hy1 hy2 rfl (by omega) lv k ((List.range k).map fun i => .pointer (some ⟨A.q i, 0, none⟩)) (by rfl) ((((Q7.out.alloc _).alloc _).alloc _).drew) ⟨wr.heap.size + 1 + 1, 0, none⟩ 1 1 [.pointer (some ⟨wr.heap.size + 1, 0, none⟩)] (by rfl) (by rfl) (World.news_of_block (cs := #[.pointer (some ⟨wr.heap.size + 1, 0, none⟩)]) (t := 83) (fr := (0, 0)) (hnew _)) (by simp [Value.oneCell']) (by omega) (by unfold maxLen; omega) (by omega) (by simp; omega) (wr.heap.size + 1 + 1 + 1) (by simp) ?_; intro gg cap w3 hown1 hgrow hat hlt; have hB : w3.heap[w1.heap.size]? = wr.heap[w1.heap.size]? := (hgrow.block _ (by simp; omega) (Ne.symm hlvn)).trans (hold _ _ hnl1); have q0 : w3.cell? ⟨w1.heap.size, 0, none⟩ = some lv := (World.cell?_of_block (w := wr) hB).trans c0; have qf : w3.frozen? ⟨w1.heap.size, 0, none⟩ = false := (World.frozen?_of_block (w := wr) hB).trans cf; have HB := Lib.hid hB; clear hB)
          all_goals
            have hR := new_close Q1.out Q2.out Q3.out Q4.out Q5.out Q6.out Q8.out Q7.out Q9.out Q10.out hgrow hown1 hat
            have HR := Lib.hid hR
            clear hgrow hown1 hat hR
            go_wp2
            go_roundw
            case rel => exact ⟨k + 1, by omega, by go_num, _, HR.out⟩
            case measure => simp [intOf]; omega
        · have hge2 : (nl : Int) ≤ k := by omega
          have HR := Lib.hid hrel
          clear hrel
          go_wp2
          go_ret2
          obtain rfl : k = nl := by omega
          exact new_end HR.out (by omega)
end Go.Proofs.Ytadalodjnbnjkaa
