/- send of a message that is late: it joins those on their way. -/
import Derived.Test.YtadalodjnbnjkaaSend2
import Derived.Deep.RegionLaw
namespace Go.Proofs.Ytadalodjnbnjkaa
open Go.RowKit Go.Conc

theorem ownsRow_below {w w' : World} {base : Nat} {e : TypeId} {size n : Nat} {v : Value} {xs : List Value} (h : w.ownsRow base e size v n xs) (hb : Below w.heap.size w w') : w'.ownsRow base e size v n xs :=
  ownsRow_keep h fun b hb' => hb.block b (h.lt b hb').2
theorem ownBlock_lt {w : World} {base : Nat} {e : TypeId} {size n : Nat} {v : Value} {xs : List Value} (h : w.ownsRow base e size v n xs) {b : Nat} (hb : v.ownBlock = some b) : b < w.heap.size := (h.lt b hb).2
theorem MsgAt.one {w : World} {g : Nat} {v : Value} {l : List Int} (h : MsgAt w g v l) : v.oneCell' = true := by
  obtain ⟨cap, cur, rfl, _⟩ := h; rfl
theorem latCells_snoc (X : List (Ml × Value)) (m : Ml) (v : Value) : latCells (X ++ [(m, v)]) = latCells X ++ [.int .i64 m.due, .int .i64 m.lane, v] := by simp [latCells]

/-- The net behind a message that is late. -/
theorem delayed_net {w W : World} {own : Own} {A : Ga} {N : Nt} {i t g gg capl : Nat} {fv lv v nv : Value} {l : List Int} {X : List (Ml × Value)}
    (h0 : Lies w own) (h1 : HeadIs w own A N.nl capl fv N.sent N.now lv) (h2 : ArrIs w own A N.nl capl) (h3 : FatesIs w own fv N.fates) (h5 : ∀ j, j < N.nl → LaneIs w own A j (N.lane j) (N.lane j).shut)
    (hX : X.map Prod.fst = N.later) (hX4 : LatOk w own X) (hop : (N.lane i).closed = false)
    (hmv : Mv own.has w W)
    (hq : W.heap[A.q i]? = some (.cells #[.chan (some (A.c i)), .bool (N.lane i).closed, .int .i64 ((N.lane i).coming + 1 : Nat)] 86 (0, 0)))
    (hnet : W.heap[A.net]? = some (.cells #[.slice (some ⟨A.arr, 0, none⟩) N.nl capl, fv, .int .i64 N.sent, .int .i64 N.now, nv] 82 (0, 0)))
    (hrest : ∀ b u, own b = some u → u ≠ .net → u ≠ .q i → u ≠ .later → W.heap[b]? = w.heap[b]?)
    (hm : MsgAt W g v l) (hg : w.heap.size ≤ g)
    (hnv : W.ownsRow 0 115 3 nv (X.length + 1) (latCells X ++ [.int .i64 ((N.now + t : Nat) : Int), .int .i64 i, v])) (hgg : nv.ownBlock = some gg) (hgo : own gg = some .later ∨ (w.heap.size ≤ gg ∧ gg ≠ g)) :
    Leaves w own A (N.delayed i t l) (.returned (.tuple #[])) (.returned (.tuple #[])) W := by
  have hgl : gg < W.heap.size := ownBlock_lt hnv hgg
  have hgn : own g = none := h0.none hg
  have hgne : gg ≠ g := by
    rcases hgo with h | h
    · intro e; rw [e, hgn] at h; cases h
    · exact h.2
  have hown : ∀ b u, own b = some u → u ≠ .later → ((own.put g .lat).put gg .later) b = some u := fun b u hb hu => by
    have hbg : b ≠ g := fun e => by rw [e, hgn] at hb; cases hb
    have hbgg : b ≠ gg := fun e => by
      rcases hgo with h | h
      · rw [e, h] at hb; cases hb; exact hu rfl
      · have := h0 b u hb; omega
    rw [Own.put_other _ _ hbgg, Own.put_other _ _ hbg]; exact hb
  have key : ∀ b u, own b = some u → u ≠ .net → u ≠ .q i → u ≠ .later → ((own.put g .lat).put gg .later) b = some u ∧ W.heap[b]? = w.heap[b]? := fun b u hb h1 h2 h3 => ⟨hown b u hb h3, hrest b u hb h1 h2 h3⟩
  have hlies : Lies W ((own.put g .lat).put gg .later) := ((h0.mono hmv.size).put hm.lt _).put hgl _
  have hgrow : Grows w.heap.size own ((own.put g .lat).put gg .later) := by
    have hA := (Grows.refl w.heap.size own).put hg Tag.lat
    rcases hgo with h | h
    · exact hA.put_own h _
    · exact hA.put h.1 _
  refine ⟨rfl, _, ⟨hlies, capl, fv, nv, ⟨hown _ _ h1.1 (by simp), hnet⟩, h2.keep (fun ho => key _ _ ho (by simp) (by simp) (by simp)), h3.keep (fun b hb => key _ _ hb (by simp) (by simp) (by simp)), ?_, ?_⟩, hmv, hgrow⟩
  · refine ⟨X ++ [(⟨N.now + t, i, l⟩, v)], by simp [Nt.delayed, hX], by simpa [latCells_snoc] using hnv, fun b hb => ?_, fun x hx => ?_⟩
    · rw [hgg] at hb; cases hb; exact Own.put_same _ _ _
    · simp only [List.mem_append, List.mem_singleton] at hx
      rcases hx with hx | rfl
      · exact (hX4.keep (fun b hb => key b _ hb (by simp) (by simp) (by simp))) x hx
      · exact ⟨g, by rw [Own.put_other _ _ (Ne.symm hgne), Own.put_same], hm⟩
  · intro j hj
    by_cases hji : j = i
    · subst hji
      obtain ⟨a1, a2, a3, vs, s, r, a4, a5⟩ := h5 j hj
      simp only [Nt.delayed, setL_same]
      refine ⟨hown _ _ a1 (by simp), (key _ _ a2 (by simp) (by simp) (by simp)).1, hq, vs, s, r, ?_, a5.keep fun b k hb => key _ _ hb (by simp) (by simp) (by simp)⟩
      rw [(key _ _ a2 (by simp) (by simp) (by simp)).2, a4]
      simp [Lq.shut, hop]
    · simp only [Nt.delayed, setL_other _ _ hji]
      refine (h5 j hj).keep fun b u hb hu => key b u hb ?_ ?_ ?_
      all_goals (rcases hu with rfl | rfl | ⟨k, rfl⟩ <;> simp [hji])

theorem late_close {w w1 w2 w3 : World} {own : Own} {A : Ga} {N : Nt} {i t g gg capl cap' : Nat} {fv lv v : Value} {l : List Int} {X : List (Ml × Value)} {o : Obj}
    (h0 : Lies w own) (h1 : HeadIs w own A N.nl capl fv N.sent N.now lv) (h2 : ArrIs w own A N.nl capl) (h3 : FatesIs w own fv N.fates) (h5 : ∀ j, j < N.nl → LaneIs w own A j (N.lane j) (N.lane j).shut)
    (hX : X.map Prod.fst = N.later) (hX3 : ∀ b, lv.ownBlock = some b → own b = some .later) (hX4 : LatOk w own X) (hop : (N.lane i).closed = false) (hi : i < N.nl)
    (hw1 : w1 = w.setCell ⟨A.q i, 2, none⟩ (.int .i64 ((N.lane i).coming + 1))) (hb : Below w1.drew.heap.size w1.drew w2) (hg : w1.drew.heap.size ≤ g) (hm : MsgAt w2 g v l)
    (hown : w3.ownsRow 0 115 3 (.slice (some ⟨gg, 0, none⟩) (X.length + 1) cap') (X.length + 1) (latCells X ++ [.int .i64 (N.now + t), .int .i64 i, v]))
    (hgrow : (w2.alloc o).grownBy w3 lv.ownBlock) (hat : lv.ownBlock = some gg ∨ gg = w2.heap.size + 1) :
    Leaves w own A (N.delayed i t l) (.returned (.tuple #[])) (.returned (.tuple #[])) (w3.setCell ⟨A.net, 4, none⟩ (.slice (some ⟨gg, 0, none⟩) (X.length + 1) cap')) := by
  have hL := h5 i hi
  have hs1 : w1.drew.heap.size = w.heap.size := by rw [hw1]; simp [World.setCell, World.drew]
  have hb' : ∀ b, b < w.heap.size → w2.heap[b]? = w1.heap[b]? := fun b hb' => hb.block b (by omega)
  have hs2 : w.heap.size ≤ w2.heap.size := by have := hb.size; omega
  have hs3 : w2.heap.size + 1 ≤ w3.heap.size := by have := hgrow.size; simpa using this
  have hg3 : ∀ b, b < w2.heap.size → lv.ownBlock ≠ some b → w3.heap[b]? = w2.heap[b]? := fun b hb1 hb2 =>
    (hgrow.block b (by simp; omega) (Ne.symm hb2)).trans (Below.heap_alloc _ _ _ hb1)
  have hnq : A.net ≠ A.q i := fun e => by have := h1.1; rw [e, hL.1] at this; cases this
  have hlq : lv.ownBlock ≠ some (A.q i) := fun e => by have := hX3 _ e; rw [hL.1] at this; cases this
  have hln : lv.ownBlock ≠ some A.net := fun e => by have := hX3 _ e; rw [h1.1] at this; cases this
  have hgn : A.net ≠ g := fun e => by have := h0 _ _ h1.1; omega
  have hggn : A.net ≠ gg := fun e => by
    rcases hat with h | h
    · exact hln (by rw [h, e])
    · have := h0 _ _ h1.1; omega
  refine delayed_net (g := g) (gg := gg) (v := v) (nv := .slice (some ⟨gg, 0, none⟩) (X.length + 1) cap') h0 h1 h2 h3 h5 hX hX4 hop ?_ ?_ ?_ ?_ ?_ (by omega) ?_ rfl ?_
  · have hc : own.has (A.q i) := by unfold Own.has; rw [hL.1]; simp
    have hn : own.has A.net := by unfold Own.has; rw [h1.1]; simp
    have e1 : Mv own.has w w1 := by rw [hw1]; exact (Mv.refl _ _).setCell (.inl hc) _
    have e2 : Mv own.has w w2 := e1.trans' (Mv.drew (Mv.refl own.has w1) |>.trans' (Mv.of_below hb) (fun _ _ h => h.elim)) (fun _ _ h => h)
    have e3 : Mv own.has w w3 := (e2.alloc o).grown hgrow (fun k hk => .inl (by unfold Own.has; rw [hX3 k hk]; simp))
    exact e3.setCell (.inl hn) _
  · rw [heap_setCell_other (Ne.symm hnq), hg3 _ (by have := lt_of_heap hL.2.2.1; omega) hlq, hb' _ (lt_of_heap hL.2.2.1), hw1, heap_setCell_same hL.2.2.1]
    simp
  · have := heap_setCell_same (w := w3) (b := A.net) (j := 4) ((hg3 _ (by have := h0 _ _ h1.1; omega) hln).trans ((hb' _ (h0 _ _ h1.1)).trans (by rw [hw1, heap_setCell_other hnq]; exact h1.2))) (.slice (some ⟨gg, 0, none⟩) (X.length + 1) cap')
    rw [this]; simp
  · intro b u hb1 hb2 hb3 hb4
    have hbl := h0 b u hb1
    rw [heap_setCell_other (fun e => by rw [e, h1.1] at hb1; cases hb1; exact hb2 rfl), hg3 b (by omega) (fun e => by rw [hX3 b e] at hb1; cases hb1; exact hb4 rfl), hb' b hbl, hw1,
      heap_setCell_other (fun e => by rw [e, hL.1] at hb1; cases hb1; exact hb3 rfl)]
  · refine hm.of_block ?_
    rw [heap_setCell_other (Ne.symm hgn), hg3 g hm.lt (fun e => by have := hX3 g e; have := h0 _ _ this; omega)]
  · refine ownsRow_keep ?_ (fun b hb1 => ?_) (w := w3)
    · simpa using hown
    · simp [Value.ownBlock] at hb1
      subst hb1
      exact heap_setCell_other (Ne.symm hggn) _
  · rcases hat with h | h
    · exact .inl (hX3 _ h)
    · exact .inr ⟨by omega, fun e => by have := hm.lt; omega⟩

theorem bcell {W w1 : World} (hb : Below W.heap.size W w1) : (∀ b o, b < W.heap.size → w1.cell? ⟨b, o, none⟩ = W.cell? ⟨b, o, none⟩) ∧ (∀ b o, b < W.heap.size → w1.frozen? ⟨b, o, none⟩ = W.frozen? ⟨b, o, none⟩) :=
  ⟨fun b o h => hb.cell (p := ⟨b, o, none⟩) h, fun b o h => hb.frozen (p := ⟨b, o, none⟩) h⟩

set_option maxRecDepth 100000 in
set_option maxHeartbeats 3200000 in
theorem send_late (w : World) (own : Own) (A : Ga) (N : Nt) (i t : Nat) (ad : Addr) (n cap : Nat) (l : List Int) (h : NetIs w own A N) (hi : i < N.nl) (hop : (N.lane i).closed = false)
    (ht : 0 < t) (hb1 : t < 1099511627776) (hb2 : N.now < 1099511627776) (hb3 : N.later.length < 1099511627776) (hb4 : (N.lane i).coming < 1099511627776)
    (hn : l.length = n) (hcells : ∀ j u, (ub l)[j]? = some u → w.cell? (ad.add j) = some u) (hfree : own ad.block = none) (hsz : n ≤ 1099511627776) :
    Calls Try.prog 35 #[.pointer (some ⟨A.net, 0, none⟩), .int .i64 i, .int .i64 t, .slice (some ad) n cap] w (Leaves w own A (N.delayed i t l) (.returned (.tuple #[]))) := by
  obtain ⟨i0, hi0, hz0, hz1, hz2⟩ := info_parts Try.info115
  have H := Lib.hid h
  obtain ⟨h0, capl, fv, lv, h1, h2, h3, ⟨X, hX, hX2, hX3, hX4⟩, h5⟩ := h
  have hL := h5 i hi
  have HL := Lib.hid hL
  have HN := Lib.hid hn
  have HC := Lib.hid hcells
  have HS := Lib.hid hsz
  have HZ := Lib.hid h0
  have hxl : X.length = N.later.length := by rw [← hX]; simp
  have HX := Lib.hid hX
  have HX2 := Lib.hid hX2
  have HX3 := Lib.hid hX3
  have HX4 := Lib.hid hX4
  have H1 := Lib.hid h1
  have H2 := Lib.hid h2
  have H3 := Lib.hid h3
  have H5 := Lib.hid h5
  have HXL := Lib.hid hxl
  have hfr := Lib.hid hfree
  have g0 : w.cell? ⟨A.net, 0, none⟩ = some (.slice (some ⟨A.arr, 0, none⟩) N.nl capl) := cell_of_heap h1.2 0 rfl
  have g3 : w.cell? ⟨A.net, 3, none⟩ = some (.int .i64 N.now) := cell_of_heap h1.2 3 rfl
  have g4 : w.cell? ⟨A.net, 4, none⟩ = some lv := cell_of_heap h1.2 4 rfl
  have gf := free_of_heap h1.2 4
  have g1 := h2.cell hi
  have gq : w.cell? ⟨A.q i, 2, none⟩ = some (.int .i64 (N.lane i).coming) := cell_of_heap hL.2.2.1 2 rfl
  have gqf := free_of_heap hL.2.2.1 2
  have hii : (i : Int) < N.nl := by omega
  have htz : ((t : Int) == 0) = false := by simp; omega
  have hop' := Lib.hid hop
  have hx3 : X.length < 1099511627776 := by omega
  clear hn hcells hsz hL h5 h0 h1 h2 h3 hX hX2 hX3 hX4 hop hxl hfree
  go_enter Try.func35, Try.ntmps35
  go_wp2_with fail
  have hnq : A.net ≠ A.q i := fun e => by have := H1.out.1; rw [e, HL.out.1] at this; cases this
  have hnetl : A.net < w.heap.size := lt_of_heap H1.out.2
  have hadq : ad.block ≠ A.q i := fun e => by have := hfr.out; rw [e, HL.out.1] at this; cases this
  have hlvq : ∀ b, lv.ownBlock = some b → b ≠ A.q i := fun b hb e => by have := HX3.out b hb; rw [e, HL.out.1] at this; cases this
  have hlvn : lv.ownBlock ≠ some A.net := fun e => by have := HX3.out _ e; rw [H1.out.1] at this; cases this
  obtain ⟨w1, hw1⟩ : ∃ w1, w1 = w.setCell ⟨A.q i, 2, none⟩ (.int .i64 ((N.lane i).coming + 1)) := ⟨_, rfl⟩
  rw [← hw1]
  have k3 : w1.cell? ⟨A.net, 3, none⟩ = some (.int .i64 N.now) := by rw [hw1, World.cell?_of_block (w := w) (heap_setCell_other hnq _)]; exact g3
  have k4 : w1.cell? ⟨A.net, 4, none⟩ = some lv := by rw [hw1, World.cell?_of_block (w := w) (heap_setCell_other hnq _)]; exact g4
  have kf : w1.frozen? ⟨A.net, 4, none⟩ = false := by rw [hw1, World.frozen?_of_block (w := w) (heap_setCell_other hnq _)]; exact gf
  have KC : Hid (∀ j u, (ub l)[j]? = some u → w1.cell? (ad.add j) = some u) := fun j u hj => by
    have hb : (ad.add j).block = ad.block := by unfold Addr.add; split <;> rfl
    rw [hw1, World.cell?_of_block (w := w) (heap_setCell_other (by rw [hb]; exact hadq) _)]; exact HC.out j u hj
  have KX : Hid (w1.ownsRow 0 115 3 lv X.length (latCells X)) := ownsRow_keep HX2.out fun b hb => by rw [hw1]; exact heap_setCell_other (hlvq b hb) _
  have ksz : w1.heap.size = w.heap.size := by rw [hw1]; simp [World.setCell]
  have hnl1 : A.net < w1.heap.size := by omega
  have HW := Lib.hid hw1
  have KSZ := Lib.hid ksz
  have hsum : IntKind.i64.wrap ((N.now : Int) + t) = (N.now : Int) + t := IntWalk.i64_in _ (by omega)
  clear hw1 ksz g0 g1 g3 g4 gf gq gqf
  go_region_law
    (first
      | (go_simp; go_at_call 36; refine (clone_any _ ad n cap l HN.out (by exact KC.out) HS.out).mono ?_; rintro e w' ⟨v, g, rfl, hm, hg, hb⟩; have hm' := Lib.hid hm; obtain ⟨capm, curm, rfl, _⟩ := hm; obtain ⟨hc, hf⟩ := bcell hb; have kk4 : w'.cell? ⟨A.net, 4, none⟩ = some lv := (hc _ _ hnl1).trans k4; have kk3 : w'.cell? ⟨A.net, 3, none⟩ = some (.int .i64 N.now) := (hc _ _ hnl1).trans k3; have kkf : w'.frozen? ⟨A.net, 4, none⟩ = false := (hf _ _ hnl1).trans kf; clear hc hf; have hsz2 : w1.heap.size ≤ w'.heap.size := hb.size; have hnl2 : A.net < w'.heap.size := Nat.lt_of_lt_of_le hnl1 hsz2; have hne2 := Nat.ne_of_lt hnl2)
      | (refine step_append_lies _ (by rfl) _ _ _ (by rfl) 0 115 i0 _ 3 40 Try.underlying80 hi0 hz0 hz1 hz2 rfl (by omega) lv X.length (latCells X) (by rfl) ((ownsRow_below (by exact KX.out) hb).alloc _) ⟨w'.heap.size, 0, none⟩ 1 1 [.int .i64 (N.now + t), .int .i64 i, .slice (some ⟨g, 0, none⟩) l.length capm] (by rfl) (by rfl) (World.news_of_block (cs := #[.int .i64 (N.now + t), .int .i64 i, .slice (some ⟨g, 0, none⟩) l.length capm]) (t := 115) (fr := (0, 0)) (heap_alloc_new w' _)) (by simp [Value.oneCell']) (by omega) (by unfold maxLen; omega) (by omega) (by simp) (w'.heap.size + 1) (by simp) ?_; intro gg cap' w3 hown1 hgrow hat hlt; have hB : w3.heap[A.net]? = w'.heap[A.net]? := (hgrow.block _ (by simp; omega) (Ne.symm hlvn)).trans (Below.heap_alloc _ _ _ (by omega)); have q4 : w3.cell? ⟨A.net, 4, none⟩ = some lv := (World.cell?_of_block (w := w') hB).trans kk4; have q3 : w3.cell? ⟨A.net, 3, none⟩ = some (.int .i64 N.now) := (World.cell?_of_block (w := w') hB).trans kk3; have qf : w3.frozen? ⟨A.net, 4, none⟩ = false := (World.frozen?_of_block (w := w') hB).trans kkf; have HB := Lib.hid hB; clear hB))
  all_goals
    refine bodyPost_end (results_none rfl _ _ _) rfl ?_
    exact late_close HZ.out H1.out H2.out H3.out H5.out HX.out HX3.out HX4.out hop'.out hi HW.out hb hg hm'.out hown1 hgrow hat
end Go.Proofs.Ytadalodjnbnjkaa
