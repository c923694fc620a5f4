/- send of a message that is late: it joins those on their way. -/
import Derived.Test.YtadalodjnbnjkaaPlay03
import Derived.Deep.RegionLaw
namespace Go.Proofs.Ytadalodjnbnjkaa
open Go.RowKit Go.Conc

theorem ownsRow_below {w w' : World} {base : Nat} {e : TypeId} {size n : Nat} {v : Value} {xs : List Value} (h : w.ownsRow base e size v n xs) (hb : Below w.heap.size w w') : w'.ownsRow base e size v n xs :=
  ownsRow_keep h fun b hb' => hb.block b (h.lt b hb').2
theorem ownBlock_lt {w : World} {base : Nat} {e : TypeId} {size n : Nat} {v : Value} {xs : List Value} (h : w.ownsRow base e size v n xs) {b : Nat} (hb : v.ownBlock = some b) : b < w.heap.size := (h.lt b hb).2
theorem MsgAt.one {w : World} {g : Nat} {v : Value} {l : List Int} (h : MsgAt w g v l) : v.oneCell' = true := by
  obtain ⟨cap, cur, rfl, _⟩ := h; rfl
theorem latCells_snoc (X : List (Ml × Value)) (m : Ml) (v : Value) : latCells (X ++ [(m, v)]) = latCells X ++ [.int .i64 m.due, .int .i64 m.lane, v] := by simp [latCells]

/-- The net behind a message that is late. -/
theorem delayed_net {w W : World} {own : Own} {A : Ga} {N : Nt} {i t g gg capl : Nat} {fv lv v nv : Value} {l : List Int} {X : List (Ml × Value)}
    (h0 : Lies w own) (h1 : HeadIs w own A N.nl capl fv N.sent N.now lv) (h2 : ArrIs w own A N.nl capl) (h3 : FatesIs w own fv N.fates) (h5 : ∀ j, j < N.nl → LaneIs w own A j (N.lane j) (N.lane j).shut)
    (hX : X.map Prod.fst = N.later) (hX4 : LatOk w own X) (hop : (N.lane i).closed = false)
    (hmv : Mv own.has w W)
    (hq : W.heap[A.q i]? = some (.cells #[.chan (some (A.c i)), .bool (N.lane i).closed, .int .i64 ((N.lane i).coming + 1 : Nat)] 86 (0, 0)))
    (hnet : W.heap[A.net]? = some (.cells #[.slice (some ⟨A.arr, 0, none⟩) N.nl capl, fv, .int .i64 N.sent, .int .i64 N.now, nv] 82 (0, 0)))
    (hrest : ∀ b u, own b = some u → u ≠ .net → u ≠ .q i → u ≠ .later → W.heap[b]? = w.heap[b]?)
    (hm : MsgAt W g v l) (hg : w.heap.size ≤ g)
    (hnv : W.ownsRow 0 115 3 nv (X.length + 1) (latCells X ++ [.int .i64 ((N.now + t : Nat) : Int), .int .i64 i, v])) (hgg : nv.ownBlock = some gg) (hgo : own gg = some .later ∨ (w.heap.size ≤ gg ∧ gg ≠ g)) :
    Leaves w own A (N.delayed i t l) (.returned (.tuple #[])) (.returned (.tuple #[])) W := by
  have hgl : gg < W.heap.size := ownBlock_lt hnv hgg
  have hgn : own g = none := h0.none hg
  have hgne : gg ≠ g := by
    rcases hgo with h | h
    · intro e; rw [e, hgn] at h; cases h
    · exact h.2
  have hown : ∀ b u, own b = some u → u ≠ .later → ((own.put g .lat).put gg .later) b = some u := fun b u hb hu => by
    have hbg : b ≠ g := fun e => by rw [e, hgn] at hb; cases hb
    have hbgg : b ≠ gg := fun e => by
      rcases hgo with h | h
      · rw [e, h] at hb; cases hb; exact hu rfl
      · have := h0 b u hb; omega
    rw [Own.put_other _ _ hbgg, Own.put_other _ _ hbg]; exact hb
  have key : ∀ b u, own b = some u → u ≠ .net → u ≠ .q i → u ≠ .later → ((own.put g .lat).put gg .later) b = some u ∧ W.heap[b]? = w.heap[b]? := fun b u hb h1 h2 h3 => ⟨hown b u hb h3, hrest b u hb h1 h2 h3⟩
  have hlies : Lies W ((own.put g .lat).put gg .later) := ((h0.mono hmv.size).put hm.lt _).put hgl _
  have hgrow : Grows w.heap.size own ((own.put g .lat).put gg .later) := by
    have hA := (Grows.refl w.heap.size own).put hg Tag.lat
    rcases hgo with h | h
    · exact hA.put_own h _
    · exact hA.put h.1 _
  refine ⟨rfl, _, ⟨hlies, capl, fv, nv, ⟨hown _ _ h1.1 (by simp), hnet⟩, h2.keep (fun ho => key _ _ ho (by simp) (by simp) (by simp)), h3.keep (fun b hb => key _ _ hb (by simp) (by simp) (by simp)), ?_, ?_⟩, hmv, hgrow⟩
  · refine ⟨X ++ [(⟨N.now + t, i, l⟩, v)], by simp [Nt.delayed, hX], by simpa [latCells_snoc] using hnv, fun b hb => ?_, fun x hx => ?_⟩
    · rw [hgg] at hb; cases hb; exact Own.put_same _ _ _
    · simp only [List.mem_append, List.mem_singleton] at hx
      rcases hx with hx | rfl
      · exact (hX4.keep (fun b hb => key b _ hb (by simp) (by simp) (by simp))) x hx
      · exact ⟨g, by rw [Own.put_other _ _ (Ne.symm hgne), Own.put_same], hm⟩
  · intro j hj
    by_cases hji : j = i
    · subst hji
      obtain ⟨a1, a2, a3, vs, s, r, a4, a5⟩ := h5 j hj
      simp only [Nt.delayed, setL_same]
      refine ⟨hown _ _ a1 (by simp), (key _ _ a2 (by simp) (by simp) (by simp)).1, hq, vs, s, r, ?_, a5.keep fun b k hb => key _ _ hb (by simp) (by simp) (by simp)⟩
      rw [(key _ _ a2 (by simp) (by simp) (by simp)).2, a4]
      simp [Lq.shut, hop]
    · simp only [Nt.delayed, setL_other _ _ hji]
      refine (h5 j hj).keep fun b u hb hu => key b u hb ?_ ?_ ?_
      all_goals (rcases hu with rfl | rfl | ⟨k, rfl⟩ <;> simp [hji])

theorem late_close {w w1 w2 w3 : World} {own : Own} {A : Ga} {N : Nt} {i t g gg capl cap' : Nat} {fv lv v : Value} {l : List Int} {X : List (Ml × Value)} {o : Obj}
    (h0 : Lies w own) (h1 : HeadIs w own A N.nl capl fv N.sent N.now lv) (h2 : ArrIs w own A N.nl capl) (h3 : FatesIs w own fv N.fates) (h5 : ∀ j, j < N.nl → LaneIs w own A j (N.lane j) (N.lane j).shut)
    (hX : X.map Prod.fst = N.later) (hX3 : ∀ b, lv.ownBlock = some b → own b = some .later) (hX4 : LatOk w own X) (hop : (N.lane i).closed = false) (hi : i < N.nl)
    (hw1 : w1 = w.setCell ⟨A.q i, 2, none⟩ (.int .i64 ((N.lane i).coming + 1))) (hb : Below w1.drew.heap.size w1.drew w2) (hg : w1.drew.heap.size ≤ g) (hm : MsgAt w2 g v l)
    (hown : w3.ownsRow 0 115 3 (.slice (some ⟨gg, 0, none⟩) (X.length + 1) cap') (X.length + 1) (latCells X ++ [.int .i64 (N.now + t), .int .i64 i, v]))
    (hgrow : (w2.alloc o).grownBy w3 lv.ownBlock) (hat : lv.ownBlock = some gg ∨ gg = w2.heap.size + 1) :
    Leaves w own A (N.delayed i t l) (.returned (.tuple #[])) (.returned (.tuple #[])) (w3.setCell ⟨A.net, 4, none⟩ (.slice (some ⟨gg, 0, none⟩) (X.length + 1) cap')) := by
  have hL := h5 i hi
  have hs1 : w1.drew.heap.size = w.heap.size := by rw [hw1]; simp [World.setCell, World.drew]
  have hb' : ∀ b, b < w.heap.size → w2.heap[b]? = w1.heap[b]? := fun b hb' => hb.block b (by omega)
  have hs2 : w.heap.size ≤ w2.heap.size := by have := hb.size; omega
  have hs3 : w2.heap.size + 1 ≤ w3.heap.size := by have := hgrow.size; simpa using this
  have hg3 : ∀ b, b < w2.heap.size → lv.ownBlock ≠ some b → w3.heap[b]? = w2.heap[b]? := fun b hb1 hb2 =>
    (hgrow.block b (by simp; omega) (Ne.symm hb2)).trans (Below.heap_alloc _ _ _ hb1)
  have hnq : A.net ≠ A.q i := fun e => by have := h1.1; rw [e, hL.1] at this; cases this
  have hlq : lv.ownBlock ≠ some (A.q i) := fun e => by have := hX3 _ e; rw [hL.1] at this; cases this
  have hln : lv.ownBlock ≠ some A.net := fun e => by have := hX3 _ e; rw [h1.1] at this; cases this
  have hgn : A.net ≠ g := fun e => by have := h0 _ _ h1.1; omega
  have hggn : A.net ≠ gg := fun e => by
    rcases hat with h | h
    · exact hln (by rw [h, e])
    · have := h0 _ _ h1.1; omega
  refine delayed_net (g := g) (gg := gg) (v := v) (nv := .slice (some ⟨gg, 0, none⟩) (X.length + 1) cap') h0 h1 h2 h3 h5 hX hX4 hop ?_ ?_ ?_ ?_ ?_ (by omega) ?_ rfl ?_
  · have hc : own.has (A.q i) := by unfold Own.has; rw [hL.1]; simp
    have hn : own.has A.net := by unfold Own.has; rw [h1.1]; simp
    have e1 : Mv own.has w w1 := by rw [hw1]; exact (Mv.refl _ _).setCell (.inl hc) _
    have e2 : Mv own.has w w2 := e1.trans' (Mv.drew (Mv.refl own.has w1) |>.trans' (Mv.of_below hb) (fun _ _ h => h.elim)) (fun _ _ h => h)
    have e3 : Mv own.has w w3 := (e2.alloc o).grown hgrow (fun k hk => .inl (by unfold Own.has; rw [hX3 k hk]; simp))
    exact e3.setCell (.inl hn) _
  · rw [heap_setCell_other (Ne.symm hnq), hg3 _ (by have := lt_of_heap hL.2.2.1; omega) hlq, hb' _ (lt_of_heap hL.2.2.1), hw1, heap_setCell_same hL.2.2.1]
    simp
  · have := heap_setCell_same (w := w3) (b := A.net) (j := 4) ((hg3 _ (by have := h0 _ _ h1.1; omega) hln).trans ((hb' _ (h0 _ _ h1.1)).trans (by rw [hw1, heap_setCell_other hnq]; exact h1.2))) (.slice (some ⟨gg, 0, none⟩) (X.length + 1) cap')
    rw [this]; simp
  · intro b u hb1 hb2 hb3 hb4
    have hbl := h0 b u hb1
    rw [heap_setCell_other (fun e => by rw [e, h1.1] at hb1; cases hb1; exact hb2 rfl), hg3 b (by omega) (fun e => by rw [hX3 b e] at hb1; cases hb1; exact hb4 rfl), hb' b hbl, hw1,
      heap_setCell_other (fun e => by rw [e, hL.1] at hb1; cases hb1; exact hb3 rfl)]
  · refine hm.of_block ?_
    rw [heap_setCell_other (Ne.symm hgn), hg3 g hm.lt (fun e => by have := hX3 g e; have := h0 _ _ this; omega)]
  · refine ownsRow_keep ?_ (fun b hb1 => ?_) (w := w3)
    · simpa using hown
    · simp [Value.ownBlock] at hb1
      subst hb1
      exact heap_setCell_other (Ne.symm hggn) _
  · rcases hat with h | h
    · exact .inl (hX3 _ h)
    · exact .inr ⟨by omega, fun e => by have := hm.lt; omega⟩

theorem bcell {W w1 : World} (hb : Below W.heap.size W w1) : (∀ b o, b < W.heap.size → w1.cell? ⟨b, o, none⟩ = W.cell? ⟨b, o, none⟩) ∧ (∀ b o, b < W.heap.size → w1.frozen? ⟨b, o, none⟩ = W.frozen? ⟨b, o, none⟩) :=
  ⟨fun b o h => hb.cell (p := ⟨b, o, none⟩) h, fun b o h => hb.frozen (p := ⟨b, o, none⟩) h⟩

set_option maxRecDepth 100000 in
set_option maxHeartbeats 3200000 in
theorem send_late (w : World) (own : Own) (A : Ga) (N : Nt) (i t : Nat) (ad : Addr) (n cap : Nat) (l : List Int) (h : NetIs w own A N) (hi : i < N.nl) (hop : (N.lane i).closed = false)
    (ht : 0 < t) (hb1 : t < 1099511627776) (hb2 : N.now < 1099511627776) (hb3 : N.later.length < 1099511627776) (hb4 : (N.lane i).coming < 1099511627776)
    (hn : l.length = n) (hcells : ∀ j u, (ub l)[j]? = some u → w.cell? (ad.add j) = some u) (hfree : own ad.block = none) (hsz : n ≤ 1099511627776) :
    Calls Try.prog 35 #[.pointer (some ⟨A.net, 0, none⟩), .int .i64 i, .int .i64 t, .slice (some ad) n cap] w (Leaves w own A (N.delayed i t l) (.returned (.tuple #[]))) := by
  obtain ⟨i0, hi0, hz0, hz1, hz2⟩ := info_parts Try.info115
  have H := Lib.hid h
  obtain ⟨h0, capl, fv, lv, h1, h2, h3, ⟨X, hX, hX2, hX3, hX4⟩, h5⟩ := h
  have hL := h5 i hi
  have HL := Lib.hid hL
  have HN := Lib.hid hn
  have HC := Lib.hid hcells
  have HS := Lib.hid hsz
  have HZ := Lib.hid h0
  have hxl : X.length = N.later.length := by rw [← hX]; simp
  have HX := Lib.hid hX
  have HX2 := Lib.hid hX2
  have HX3 := Lib.hid hX3
  have HX4 := Lib.hid hX4
  have H1 := Lib.hid h1
  have H2 := Lib.hid h2
  have H3 := Lib.hid h3
  have H5 := Lib.hid h5
  have HXL := Lib.hid hxl
  have hfr := Lib.hid hfree
  have g0 : w.cell? ⟨A.net, 0, none⟩ = some (.slice (some ⟨A.arr, 0, none⟩) N.nl capl) := cell_of_heap h1.2 0 rfl
  have g3 : w.cell? ⟨A.net, 3, none⟩ = some (.int .i64 N.now) := cell_of_heap h1.2 3 rfl
  have g4 : w.cell? ⟨A.net, 4, none⟩ = some lv := cell_of_heap h1.2 4 rfl
  have gf := free_of_heap h1.2 4
  have g1 := h2.cell hi
  have gq : w.cell? ⟨A.q i, 2, none⟩ = some (.int .i64 (N.lane i).coming) := cell_of_heap hL.2.2.1 2 rfl
  have gqf := free_of_heap hL.2.2.1 2
  have hii : (i : Int) < N.nl := by omega
  have htz : ((t : Int) == 0) = false := by simp; omega
  have hop' := Lib.hid hop
  have hx3 : X.length < 1099511627776 := by omega
  clear hn hcells hsz hL h5 h0 h1 h2 h3 hX hX2 hX3 hX4 hop hxl hfree
  go_enter Try.func35, Try.ntmps35
  go_wp2_with fail
  have hnq : A.net ≠ A.q i := fun e => by have := H1.out.1; rw [e, HL.out.1] at this; cases this
  have hnetl : A.net < w.heap.size := lt_of_heap H1.out.2
  have hadq : ad.block ≠ A.q i := fun e => by have := hfr.out; rw [e, HL.out.1] at this; cases this
  have hlvq : ∀ b, lv.ownBlock = some b → b ≠ A.q i := fun b hb e => by have := HX3.out b hb; rw [e, HL.out.1] at this; cases this
  have hlvn : lv.ownBlock ≠ some A.net := fun e => by have := HX3.out _ e; rw [H1.out.1] at this; cases this
  obtain ⟨w1, hw1⟩ : ∃ w1, w1 = w.setCell ⟨A.q i, 2, none⟩ (.int .i64 ((N.lane i).coming + 1)) := ⟨_, rfl⟩
  rw [← hw1]
  have k3 : w1.cell? ⟨A.net, 3, none⟩ = some (.int .i64 N.now) := by rw [hw1, World.cell?_of_block (w := w) (heap_setCell_other hnq _)]; exact g3
  have k4 : w1.cell? ⟨A.net, 4, none⟩ = some lv := by rw [hw1, World.cell?_of_block (w := w) (heap_setCell_other hnq _)]; exact g4
  have kf : w1.frozen? ⟨A.net, 4, none⟩ = false := by rw [hw1, World.frozen?_of_block (w := w) (heap_setCell_other hnq _)]; exact gf
  have KC : Hid (∀ j u, (ub l)[j]? = some u → w1.cell? (ad.add j) = some u) := fun j u hj => by
    have hb : (ad.add j).block = ad.block := by unfold Addr.add; split <;> rfl
    rw [hw1, World.cell?_of_block (w := w) (heap_setCell_other (by rw [hb]; exact hadq) _)]; exact HC.out j u hj
  have KX : Hid (w1.ownsRow 0 115 3 lv X.length (latCells X)) := ownsRow_keep HX2.out fun b hb => by rw [hw1]; exact heap_setCell_other (hlvq b hb) _
  have ksz : w1.heap.size = w.heap.size := by rw [hw1]; simp [World.setCell]
  have hnl1 : A.net < w1.heap.size := by omega
  have HW := Lib.hid hw1
  have KSZ := Lib.hid ksz
  have hsum : IntKind.i64.wrap ((N.now : Int) + t) = (N.now : Int) + t := IntWalk.i64_in _ (by omega)
  clear hw1 ksz g0 g1 g3 g4 gf gq gqf
  go_region_law
    (first
      | (go_simp; go_at_call 36; refine (clone_any _ ad n cap l HN.out (by exact KC.out) HS.out).mono ?_; rintro e w' ⟨v, g, rfl, hm, hg, hb⟩; have hm' := Lib.hid hm; obtain ⟨capm, curm, rfl, _⟩ := hm; obtain ⟨hc, hf⟩ := bcell hb; have kk4 : w'.cell? ⟨A.net, 4, none⟩ = some lv := (hc _ _ hnl1).trans k4; have kk3 : w'.cell? ⟨A.net, 3, none⟩ = some (.int .i64 N.now) := (hc _ _ hnl1).trans k3; have kkf : w'.frozen? ⟨A.net, 4, none⟩ = false := (hf _ _ hnl1).trans kf; clear hc hf; have hsz2 : w1.heap.size ≤ w'.heap.size := hb.size; have hnl2 : A.net < w'.heap.size := Nat.lt_of_lt_of_le hnl1 hsz2; have hne2 := Nat.ne_of_lt hnl2)
      | (refine step_append_lies _ (by rfl) _ _ _ (by rfl) 0 115 i0 _ 3 40 Try.underlying80 hi0 hz0 hz1 hz2 rfl (by omega) lv X.length (latCells X) (by rfl) ((ownsRow_below (by exact KX.out) hb).alloc _) ⟨w'.heap.size, 0, none⟩ 1 1 [.int .i64 (N.now + t), .int .i64 i, .slice (some ⟨g, 0, none⟩) l.length capm] (by rfl) (by rfl) (World.news_of_block (cs := #[.int .i64 (N.now + t), .int .i64 i, .slice (some ⟨g, 0, none⟩) l.length capm]) (t := 115) (fr := (0, 0)) (heap_alloc_new w' _)) (by simp [Value.oneCell']) (by omega) (by unfold maxLen; omega) (by omega) (by simp) (w'.heap.size + 1) (by simp) ?_; intro gg cap' w3 hown1 hgrow hat hlt; have hB : w3.heap[A.net]? = w'.heap[A.net]? := (hgrow.block _ (by simp; omega) (Ne.symm hlvn)).trans (Below.heap_alloc _ _ _ (by omega)); have q4 : w3.cell? ⟨A.net, 4, none⟩ = some lv := (World.cell?_of_block (w := w') hB).trans kk4; have q3 : w3.cell? ⟨A.net, 3, none⟩ = some (.int .i64 N.now) := (World.cell?_of_block (w := w') hB).trans kk3; have qf : w3.frozen? ⟨A.net, 4, none⟩ = false := (World.frozen?_of_block (w := w') hB).trans kkf; have HB := Lib.hid hB; clear hB))
  all_goals
    refine bodyPost_end (results_none rfl _ _ _) rfl ?_
    exact late_close HZ.out H1.out H2.out H3.out H5.out HX.out HX3.out HX4.out hop'.out hi HW.out hb hg hm'.out hown1 hgrow hat
end Go.Proofs.Ytadalodjnbnjkaa

/- Send: the message takes its fate. -/
namespace Go.Proofs.Ytadalodjnbnjkaa
open Go.RowKit Go.Conc

/-! ### plain -/
def Nt.sendAt (N : Nt) (i t : Nat) (m : List Int) : Nt := if t = 0 then N.pushed i m else N.delayed i t m
def Nt.fateOf (N : Nt) : Int × Int := N.fates.getD N.sent (0, 0)
def Nt.took (N : Nt) : Nt := { N with sent := N.sent + 1 }
/-- May it be a fate? -/
def mayF (f : Int × Int) : Prop :=
  f.1 = 0 ∨ f.1 = 1 ∨ ((f.1 = 2 ∨ f.1 = 3) ∧ 0 ≤ f.2 ∧ f.2 ≤ 1000) ∨ ((f.1 = 4 ∨ f.1 = 5) ∧ 0 ≤ f.2 ∧ f.2 ≤ 1048576)
def spoilt (m : List Int) (k : Nat) : List Int := m.set k (bits BinOp.xor IntKind.u8 (m.getD k 0) 1)
def Nt.fated (N : Nt) (i : Nat) (m : List Int) (f : Int × Int) : Nt :=
  if f.1 = 0 then N.pushed i m
  else if f.1 = 1 then N
  else if f.1 = 2 then (N.pushed i m).sendAt i f.2.toNat m
  else if f.1 = 3 then N.sendAt i f.2.toNat m
  else if f.1 = 4 then N.pushed i (m.take f.2.toNat)
  else N.pushed i (if f.2.toNat < m.length then spoilt m f.2.toNat else m)
def Nt.send (N : Nt) (i : Nat) (m : List Int) : Nt := N.took.fated i m N.fateOf

/-! ### the caller's message -/
def MsgIn (w : World) (own : Own) (ad : Addr) (l : List Int) : Prop :=
  own ad.block = none ∧ ad.block < w.heap.size ∧ ∀ j u, (ub l)[j]? = some u → w.cell? (ad.add j) = some u
theorem add_block (ad : Addr) (j : Nat) : (ad.add j).block = ad.block := by unfold Addr.add; split <;> rfl
theorem MsgIn.keep {w w' : World} {own own' : Own} {ad : Addr} {l : List Int} (h : MsgIn w own ad l) (hm : Mv own.has w w') (hg : Grows w.heap.size own own') : MsgIn w' own' ad l := by
  obtain ⟨h1, h2, h3⟩ := h
  refine ⟨hg _ h2 h1, Nat.lt_of_lt_of_le h2 hm.size, fun j u hj => ?_⟩
  rw [hm.cell (p := ad.add j) (by rw [add_block]; exact h2) (by rw [add_block]; unfold Own.has; rw [h1]; simp)]
  exact h3 j u hj
theorem MsgIn.take {w : World} {own : Own} {ad : Addr} {l : List Int} (h : MsgIn w own ad l) (k : Nat) : MsgIn w own ad (l.take k) := by
  obtain ⟨h1, h2, h3⟩ := h
  refine ⟨h1, h2, fun j u hj => h3 j u ?_⟩
  simp only [ub, List.map_take, List.getElem?_take] at hj
  split at hj
  · exact hj
  · cases hj

theorem fateCells_get (F : List (Int × Int)) : ∀ (s : Nat), s < F.length → (fateCells F)[s * 2]? = some (.int .i64 (F.getD s (0, 0)).1) ∧ (fateCells F)[s * 2 + 1]? = some (.int .i64 (F.getD s (0, 0)).2) := by
  induction F with
  | nil => intro s hs; simp at hs
  | cons f F ih =>
    intro s hs
    cases s with
    | zero => simp [fateCells]
    | succ s =>
      have := ih s (by simpa using hs)
      have e1 : (s + 1) * 2 = s * 2 + 1 + 1 := by omega
      have e2 : (s + 1) * 2 + 1 = s * 2 + 1 + 1 + 1 := by omega
      simp only [e1, List.getD_cons_succ]
      simpa [fateCells] using this

/-- The net's own block has turned, and nothing else. -/
theorem NetIs.head {w w' : World} {own : Own} {A : Ga} {N : Nt} {cap sent now : Nat} {fv lv : Value} (h0 : Lies w own) (h1 : own A.net = some .net) (h2 : ArrIs w own A N.nl cap) (h3 : FatesIs w own fv N.fates) (h4 : LaterIs w own lv N.later)
    (h5 : ∀ i, i < N.nl → LaneIs w own A i (N.lane i) (N.lane i).shut) (hm : Mv (· = A.net) w w')
    (hh : w'.heap[A.net]? = some (.cells #[.slice (some ⟨A.arr, 0, none⟩) N.nl cap, fv, .int .i64 sent, .int .i64 now, lv] 82 (0, 0))) : NetIs w' own A { N with sent := sent, now := now } := by
  have key : ∀ b t, own b = some t → t ≠ .net → own b = some t ∧ w'.heap[b]? = w.heap[b]? := fun b t hb ht => ⟨hb, hm.block b (h0 b t hb) (fun e => by subst e; rw [h1] at hb; cases hb; exact ht rfl)⟩
  exact ⟨h0.mono hm.size, cap, fv, lv, ⟨h1, hh⟩, h2.keep (fun ho => key _ _ ho (by simp)), h3.keep (fun b hb => key _ _ hb (by simp)),
    h4.keep (fun b hb => ⟨rfl, by rcases hb with hb | hb <;> exact (key _ _ hb (by simp)).2⟩), fun i hi => (h5 i hi).keep fun b t hb ht => key b t hb (by rcases ht with rfl | rfl | ⟨k, rfl⟩ <;> simp)⟩

def FatedL (w : World) (own : Own) (A : Ga) (N : Nt) (e : Ending) (w' : World) : Prop :=
  e = .returned (.agg #[.int .i64 N.fateOf.1, .int .i64 N.fateOf.2]) ∧ NetIs w' own A N.took ∧ Mv own.has w w'

theorem fateL (w : World) (own : Own) (A : Ga) (N : Nt) (h : NetIs w own A N) (hb : N.sent < 1099511627776) : Calls Try.prog 34 #[.pointer (some ⟨A.net, 0, none⟩)] w (FatedL w own A N) := by
  obtain ⟨h0, capl, fv, lv, h1, h2, h3, h4, h5⟩ := h
  have hn : ∀ b, b = A.net → own.has b := fun b e => by subst e; unfold Own.has; rw [h1.1]; simp
  have key : ∀ e w' k n, Fated w A.net (.slice (some ⟨A.arr, 0, none⟩) N.nl capl) fv N.sent (.int .i64 N.now) lv k n e w' → k = N.fateOf.1 → n = N.fateOf.2 → FatedL w own A N e w' := by
    rintro e w' k n ⟨rfl, hm, hh⟩ rfl rfl
    exact ⟨rfl, NetIs.head h0 h1.1 h2 h3 h4 h5 hm hh, hm.mono fun b _ e => hn b e⟩
  have hfv : ∃ fa n c, fv = .slice fa n c ∧ n = N.fates.length ∧ (N.sent < n → ∃ g, fa = some ⟨g, 0, none⟩) := by
    rcases h3.1.2 with ⟨h, hz⟩ | ⟨g, cap, cur, h, _⟩
    · exact ⟨none, 0, 0, h, hz.symm, fun hh => by omega⟩
    · exact ⟨_, _, _, h, rfl, fun _ => ⟨g, rfl⟩⟩
  obtain ⟨fa, n, c, hfv, hfn, hfa⟩ := hfv
  by_cases hs : N.sent < n
  · obtain ⟨g, hg⟩ := hfa hs
    have hfv' : fv = .slice (some ⟨g, 0, none⟩) n c := by rw [hfv, hg]
    have hb' : fv.ownBlock = some g := by rw [hfv']; rfl
    have hc := h3.1.cells hb'
    have hf := fateCells_get N.fates N.sent (by omega)
    have c1 := hc _ _ hf.1
    have c2 := hc _ _ hf.2
    have e1 : ∀ j, (⟨g, 0, none⟩ : Addr).add j = ⟨g, j, none⟩ := fun j => by unfold Addr.add; split <;> simp_all
    rw [e1] at c1 c2
    have hp := h1.2
    rw [hfv'] at hp
    refine (fate_some w A.net n c N.sent g _ _ lv _ _ hp hs hb c1 c2).mono fun e w' hh => ?_
    exact key e w' _ _ (by rw [hfv']; exact hh) rfl rfl
  · have hp := h1.2
    rw [hfv] at hp
    refine (fate_none w A.net n c N.sent _ _ lv fa hp (by omega) hb).mono fun e w' hh => ?_
    have : N.fateOf = (0, 0) := by
      unfold Nt.fateOf
      rw [List.getD_eq_getElem?_getD, List.getElem?_eq_none (by omega)]; rfl
    exact key e w' _ _ (by rw [hfv]; exact hh) (by rw [this]) (by rw [this])
end Go.Proofs.Ytadalodjnbnjkaa

/- Send, by the kind of its fate. -/
namespace Go.Proofs.Ytadalodjnbnjkaa
open Go.RowKit Go.Conc

theorem NetIs.still {w w' : World} {own : Own} {A : Ga} {N : Nt} (h : NetIs w own A N) (hm : Mv (fun _ => False) w w') : NetIs w' own A N :=
  h.apart (own₂ := fun _ => none) (hm.mono fun _ _ h => h.elim) (fun _ => .inr rfl)
theorem MsgIn.still {w w' : World} {own : Own} {ad : Addr} {l : List Int} (h : MsgIn w own ad l) (hm : Mv (fun _ => False) w w') : MsgIn w' own ad l :=
  h.keep (hm.mono fun _ _ h => h.elim) (Grows.refl _ _)

theorem fateL' (w : World) (own : Own) (A : Ga) (N : Nt) (k n : Int) (h : NetIs w own A N) (hb : N.sent < 1099511627776) (hkn : N.fateOf = (k, n)) :
    Calls Try.prog 34 #[.pointer (some ⟨A.net, 0, none⟩)] w fun e w' => e = .returned (.agg #[.int .i64 k, .int .i64 n]) ∧ NetIs w' own A N.took ∧ Mv own.has w w' :=
  (fateL w own A N h hb).mono fun e w' ⟨h1, h2, h3⟩ => ⟨by rw [h1, hkn], h2, h3⟩

/-- What Send asks of its net. -/
structure Fit (N : Nt) : Prop where
  fates : ∀ f ∈ N.fates, mayF f
  sent : N.sent < 549755813888
  now : N.now < 549755813888
  later : N.later.length < 549755813888
  coming : ∀ i, i < N.nl → (N.lane i).coming ≤ N.later.length

theorem Leaves.trans {w w1 w2 : World} {own own1 : Own} {A : Ga} {N' : Nt} {e₀ e : Ending} (hm : Mv own.has w w1) (hg : Grows w.heap.size own own1) (h : Leaves w1 own1 A N' e₀ e w2) : e = e₀ ∧ ∃ own', NetIs w2 own' A N' ∧ Mv own.has w w2 ∧ Grows w.heap.size own own' := by
  obtain ⟨he, own', h1, h2, h3⟩ := h
  refine ⟨he, own', h1, hm.trans' h2 fun b hb hh ho => hh (hg b hb ho), hg.trans h3 hm.size⟩

theorem Fit.took {N : Nt} (h : Fit N) : N.took.now < 549755813888 ∧ N.took.later.length < 549755813888 ∧ ∀ i, i < N.nl → (N.took.lane i).coming < 549755813888 :=
  ⟨h.now, h.later, fun i hi => Nat.lt_of_le_of_lt (h.coming i hi) h.later⟩

/-- send, whatever its ticks. -/
theorem sendAt_any (w : World) (own : Own) (A : Ga) (N : Nt) (i t : Nat) (ad : Addr) (n cap : Nat) (l : List Int) (h : NetIs w own A N) (hi : i < N.nl) (hop : (N.lane i).closed = false)
    (hb1 : t < 1099511627776) (hb2 : N.now < 1099511627776) (hb3 : N.later.length < 1099511627776) (hb4 : (N.lane i).coming < 1099511627776)
    (hn : l.length = n) (hm : MsgIn w own ad l) (hsz : n ≤ 1099511627776) :
    Calls Try.prog 35 #[.pointer (some ⟨A.net, 0, none⟩), .int .i64 i, .int .i64 t, .slice (some ad) n cap] w (Leaves w own A (N.sendAt i t l) (.returned (.tuple #[]))) := by
  by_cases ht : t = 0
  · subst ht
    exact send_now w own A N i ad n cap l h hi hop hn hm.2.2 hsz
  · have : N.sendAt i t l = N.delayed i t l := by simp [Nt.sendAt, ht]
    rw [this]
    exact send_late w own A N i t ad n cap l h hi hop (by omega) hb1 hb2 hb3 hb4 hn hm.2.2 hm.1 hsz

set_option maxRecDepth 100000 in
set_option maxHeartbeats 1600000 in
/-- A message that is delivered. -/
theorem Send_deliver (w : World) (own : Own) (A : Ga) (N : Nt) (i : Nat) (ad : Addr) (n cap : Nat) (l : List Int) (h : NetIs w own A N) (hf : Fit N) (hi : i < N.nl) (hop : (N.lane i).closed = false)
    (hn : l.length = n) (hl : n ≤ 1048576) (hm : MsgIn w own ad l) (m : Int) (hkn : N.fateOf = (0, m)) :
    Calls Try.prog 18 #[.pointer (some ⟨A.net, 0, none⟩), .int .i64 i, .slice (some ad) n cap] w (Leaves w own A (N.took.pushed i l) (.returned (.int .i64 0))) := by
  have H := Lib.hid h
  have HF := Lib.hid hf
  have HN := Lib.hid hn
  have HM := Lib.hid hm
  have HK := Lib.hid hkn
  have HO := Lib.hid hop
  obtain ⟨h0, capl, fv, lv, h1, h2, h3, h4, h5⟩ := h
  have g0 : w.cell? ⟨A.net, 0, none⟩ = some (.slice (some ⟨A.arr, 0, none⟩) N.nl capl) := cell_of_heap h1.2 0 rfl
  have g1 := h2.cell hi
  have gq : w.cell? ⟨A.q i, 1, none⟩ = some (.bool false) := by rw [← hop]; exact cell_of_heap (h5 i hi).2.2.1 1 rfl
  have hii : (i : Int) < N.nl := by omega
  have hlong : ¬ ((1048576 : Int) < n) := by omega
  have hlong' : decide ((n : Int) > 1048576) = false := by simp; omega
  clear h0 h1 h2 h3 h4 h5 hf hn hm hkn hop
  go_enter Try.func18, Try.ntmps18
  go_wp2_with (first
    | (go_at_call 33; refine (has_yes _ A.net N.nl capl _ _ g0 (by omega) (by omega)).mono ?_; rintro e w' ⟨rfl, rfl⟩)
    | (go_at_call 34; refine (fateL' _ own A N 0 m H.out (by have := HF.out.sent; omega) HK.out).mono ?_; rintro e w1 ⟨rfl, hN1, hm1⟩))
  have hs : Mv (fun _ => False) w1 (w1.alloc (.cells #[.int .i64 0, .int .i64 m] 63)) := (Mv.refl _ _).alloc _
  refine (send_now _ own A N.took i ad n cap l (hN1.still hs) hi HO.out HN.out ((HM.out.keep hm1 (Grows.refl _ _)).still hs).2.2 (by omega)).mono ?_
  rintro e w2 ⟨rfl, hL⟩
  go_wp2
  go_ret
  obtain ⟨own', r1, r2, r3⟩ := hL
  exact Leaves.trans (hm1.trans' hs (fun _ _ h => h.elim)) (Grows.refl _ _) ⟨rfl, own', r1, r2, r3⟩
set_option maxRecDepth 100000 in
set_option maxHeartbeats 1600000 in
/-- A message that is lost. -/
theorem Send_drop (w : World) (own : Own) (A : Ga) (N : Nt) (i : Nat) (ad : Addr) (n cap : Nat) (l : List Int) (h : NetIs w own A N) (hf : Fit N) (hi : i < N.nl) (hop : (N.lane i).closed = false)
    (hn : l.length = n) (hl : n ≤ 1048576) (hm : MsgIn w own ad l) (m : Int) (hkn : N.fateOf = (1, m)) :
    Calls Try.prog 18 #[.pointer (some ⟨A.net, 0, none⟩), .int .i64 i, .slice (some ad) n cap] w (Leaves w own A (N.took) (.returned (.int .i64 0))) := by
  have H := Lib.hid h
  have HF := Lib.hid hf
  have HN := Lib.hid hn
  have HM := Lib.hid hm
  have HK := Lib.hid hkn
  have HO := Lib.hid hop
  obtain ⟨h0, capl, fv, lv, h1, h2, h3, h4, h5⟩ := h
  have g0 : w.cell? ⟨A.net, 0, none⟩ = some (.slice (some ⟨A.arr, 0, none⟩) N.nl capl) := cell_of_heap h1.2 0 rfl
  have g1 := h2.cell hi
  have gq : w.cell? ⟨A.q i, 1, none⟩ = some (.bool false) := by rw [← hop]; exact cell_of_heap (h5 i hi).2.2.1 1 rfl
  have hii : (i : Int) < N.nl := by omega
  have hlong : ¬ ((1048576 : Int) < n) := by omega
  have hlong' : decide ((n : Int) > 1048576) = false := by simp; omega
  clear h0 h1 h2 h3 h4 h5 hf hn hm hkn hop
  go_enter Try.func18, Try.ntmps18
  go_wp2_with (first
    | (go_at_call 33; refine (has_yes _ A.net N.nl capl _ _ g0 (by omega) (by omega)).mono ?_; rintro e w' ⟨rfl, rfl⟩)
    | (go_at_call 34; refine (fateL' _ own A N 1 m H.out (by have := HF.out.sent; omega) HK.out).mono ?_; rintro e w1 ⟨rfl, hN1, hm1⟩))
  go_ret
  have hs : Mv (fun _ => False) w1 (w1.alloc (.cells #[.int .i64 1, .int .i64 m] 63)) := (Mv.refl _ _).alloc _
  exact ⟨rfl, own, hN1.still hs, hm1.trans' hs (fun _ _ h => h.elim), Grows.refl _ _⟩
set_option maxRecDepth 100000 in
set_option maxHeartbeats 1600000 in
/-- A message that is late. -/
theorem Send_delay (w : World) (own : Own) (A : Ga) (N : Nt) (i : Nat) (ad : Addr) (n cap : Nat) (l : List Int) (h : NetIs w own A N) (hf : Fit N) (hi : i < N.nl) (hop : (N.lane i).closed = false)
    (hn : l.length = n) (hl : n ≤ 1048576) (hm : MsgIn w own ad l) (t : Nat) (ht : t ≤ 1000) (hkn : N.fateOf = (3, (t : Int))) :
    Calls Try.prog 18 #[.pointer (some ⟨A.net, 0, none⟩), .int .i64 i, .slice (some ad) n cap] w (Leaves w own A (N.took.sendAt i t l) (.returned (.int .i64 0))) := by
  have H := Lib.hid h
  have HF := Lib.hid hf
  have HN := Lib.hid hn
  have HM := Lib.hid hm
  have HK := Lib.hid hkn
  have HO := Lib.hid hop
  obtain ⟨h0, capl, fv, lv, h1, h2, h3, h4, h5⟩ := h
  have g0 : w.cell? ⟨A.net, 0, none⟩ = some (.slice (some ⟨A.arr, 0, none⟩) N.nl capl) := cell_of_heap h1.2 0 rfl
  have g1 := h2.cell hi
  have gq : w.cell? ⟨A.q i, 1, none⟩ = some (.bool false) := by rw [← hop]; exact cell_of_heap (h5 i hi).2.2.1 1 rfl
  have hii : (i : Int) < N.nl := by omega
  have hlong : ¬ ((1048576 : Int) < n) := by omega
  have hlong' : decide ((n : Int) > 1048576) = false := by simp; omega
  clear h0 h1 h2 h3 h4 h5 hf hn hm hkn hop
  go_enter Try.func18, Try.ntmps18
  go_wp2_with (first
    | (go_at_call 33; refine (has_yes _ A.net N.nl capl _ _ g0 (by omega) (by omega)).mono ?_; rintro e w' ⟨rfl, rfl⟩)
    | (go_at_call 34; refine (fateL' _ own A N 3 t H.out (by have := HF.out.sent; omega) HK.out).mono ?_; rintro e w1 ⟨rfl, hN1, hm1⟩))
  have hs : Mv (fun _ => False) w1 (w1.alloc (.cells #[.int .i64 3, .int .i64 t] 63)) := (Mv.refl _ _).alloc _
  refine (sendAt_any _ own A N.took i t ad n cap l (hN1.still hs) hi HO.out (by omega) (by have := HF.out.took.1; omega) (by have := HF.out.took.2.1; omega) (by have := HF.out.took.2.2 i hi; omega) HN.out ((HM.out.keep hm1 (Grows.refl _ _)).still hs) (by omega)).mono ?_
  rintro e w2 ⟨rfl, hL⟩
  go_wp2
  go_ret
  obtain ⟨own', r1, r2, r3⟩ := hL
  exact Leaves.trans (hm1.trans' hs (fun _ _ h => h.elim)) (Grows.refl _ _) ⟨rfl, own', r1, r2, r3⟩
end Go.Proofs.Ytadalodjnbnjkaa

/- Send: doubled, cut, spoilt; and what is refused. -/
namespace Go.Proofs.Ytadalodjnbnjkaa
open Go.RowKit Go.Conc

set_option maxRecDepth 100000 in
set_option maxHeartbeats 1600000 in
/-- A message that comes twice. -/
theorem Send_double (w : World) (own : Own) (A : Ga) (N : Nt) (i : Nat) (ad : Addr) (n cap : Nat) (l : List Int) (h : NetIs w own A N) (hf : Fit N) (hi : i < N.nl) (hop : (N.lane i).closed = false)
    (hn : l.length = n) (hl : n ≤ 1048576) (hm : MsgIn w own ad l) (t : Nat) (ht : t ≤ 1000) (hkn : N.fateOf = (2, (t : Int))) :
    Calls Try.prog 18 #[.pointer (some ⟨A.net, 0, none⟩), .int .i64 i, .slice (some ad) n cap] w (Leaves w own A ((N.took.pushed i l).sendAt i t l) (.returned (.int .i64 0))) := by
  have H := Lib.hid h
  have HF := Lib.hid hf
  have HN := Lib.hid hn
  have HM := Lib.hid hm
  have HK := Lib.hid hkn
  have HO := Lib.hid hop
  obtain ⟨h0, capl, fv, lv, h1, h2, h3, h4, h5⟩ := h
  have g0 : w.cell? ⟨A.net, 0, none⟩ = some (.slice (some ⟨A.arr, 0, none⟩) N.nl capl) := cell_of_heap h1.2 0 rfl
  have g1 := h2.cell hi
  have gq : w.cell? ⟨A.q i, 1, none⟩ = some (.bool false) := by rw [← hop]; exact cell_of_heap (h5 i hi).2.2.1 1 rfl
  have hii : (i : Int) < N.nl := by omega
  have hlong : ¬ ((1048576 : Int) < n) := by omega
  have hlong' : decide ((n : Int) > 1048576) = false := by simp; omega
  clear h0 h1 h2 h3 h4 h5 hf hn hm hkn hop
  go_enter Try.func18, Try.ntmps18
  go_wp2_with (first
    | (go_at_call 33; refine (has_yes _ A.net N.nl capl _ _ g0 (by omega) (by omega)).mono ?_; rintro e w' ⟨rfl, rfl⟩)
    | (go_at_call 34; refine (fateL' _ own A N 2 t H.out (by have := HF.out.sent; omega) HK.out).mono ?_; rintro e w1 ⟨rfl, hN1, hm1⟩))
  have hs : Mv (fun _ => False) w1 (w1.alloc (.cells #[.int .i64 2, .int .i64 t] 63)) := (Mv.refl _ _).alloc _
  have hM := (HM.out.keep hm1 (Grows.refl _ _)).still hs
  have hF : (w1.alloc (.cells #[.int .i64 2, .int .i64 t] 63)).heap[w1.heap.size]? = some (.cells #[.int .i64 2, .int .i64 t] 63 (0, 0)) := heap_alloc_new _ _
  refine (send_now _ own A N.took i ad n cap l (hN1.still hs) hi HO.out HN.out hM.2.2 (by have := HN.out; omega)).mono ?_
  rintro e w2 ⟨rfl, own', r1, r2, r3⟩
  have hlF : own w1.heap.size = none := hN1.1.none (Nat.le_refl _)
  have hF2 : w2.heap[w1.heap.size]? = some (.cells #[.int .i64 2, .int .i64 t] 63 (0, 0)) := (r2.block _ (lt_of_heap hF) (by unfold Own.has; rw [hlF]; simp)).trans hF
  have hcF : w2.cell? ⟨w1.heap.size, 1, none⟩ = some (.int .i64 t) := cell_of_heap hF2 1 rfl
  have hM2 := Lib.hid (hM.keep r2 r3)
  have HS := Lib.hid hs
  have HF2 := Lib.hid hF2
  have HLF := Lib.hid hlF
  clear hF hs hM hF2 hlF
  go_wp2_with fail
  refine (sendAt_any _ own' A (N.took.pushed i l) i t ad n cap l r1 hi (by simp [Nt.pushed, setL_same, Lq.push]; exact HO.out) (by omega) (by have := HF.out.took.1; simp [Nt.pushed]; omega) (by have := HF.out.took.2.1; simp [Nt.pushed]; omega) (by have := HF.out.took.2.2 i hi; simp [Nt.pushed, setL_same, Lq.push]; omega) HN.out hM2.out (by omega)).mono ?_
  rintro e w3 ⟨rfl, own'', q1, q2, q3⟩
  go_wp2
  go_ret
  exact Leaves.trans (hm1.trans' ((HS.out.mono (fun _ _ h => h.elim) : Mv own.has _ _).trans' r2 (fun _ _ h => h)) (fun _ _ h => h)) (fun b hb ho => r3 b (by have := hm1.size; have := HS.out.size; omega) ho) ⟨rfl, own'', q1, q2, q3⟩
set_option maxRecDepth 100000 in
set_option maxHeartbeats 1600000 in
/-- A message that is cut short. -/
theorem Send_cut (w : World) (own : Own) (A : Ga) (N : Nt) (i : Nat) (ad : Addr) (n cap : Nat) (l : List Int) (h : NetIs w own A N) (hf : Fit N) (hi : i < N.nl) (hop : (N.lane i).closed = false)
    (hn : l.length = n) (hl : n ≤ 1048576) (hm : MsgIn w own ad l) (t : Nat) (ht : t ≤ 1048576) (hcap : n ≤ cap) (hkn : N.fateOf = (4, (t : Int))) :
    Calls Try.prog 18 #[.pointer (some ⟨A.net, 0, none⟩), .int .i64 i, .slice (some ad) n cap] w (Leaves w own A (N.took.pushed i (l.take t)) (.returned (.int .i64 0))) := by
  have H := Lib.hid h
  have HF := Lib.hid hf
  have HN := Lib.hid hn
  have HM := Lib.hid hm
  have HK := Lib.hid hkn
  have HO := Lib.hid hop
  obtain ⟨h0, capl, fv, lv, h1, h2, h3, h4, h5⟩ := h
  have g0 : w.cell? ⟨A.net, 0, none⟩ = some (.slice (some ⟨A.arr, 0, none⟩) N.nl capl) := cell_of_heap h1.2 0 rfl
  have g1 := h2.cell hi
  have gq : w.cell? ⟨A.q i, 1, none⟩ = some (.bool false) := by rw [← hop]; exact cell_of_heap (h5 i hi).2.2.1 1 rfl
  have hii : (i : Int) < N.nl := by omega
  have hlong : ¬ ((1048576 : Int) < n) := by omega
  have hlong' : decide ((n : Int) > 1048576) = false := by simp; omega
  clear h0 h1 h2 h3 h4 h5 hf hn hm hkn hop
  go_enter Try.func18, Try.ntmps18
  go_wp2_with (first
    | (go_at_call 33; refine (has_yes _ A.net N.nl capl _ _ g0 (by omega) (by omega)).mono ?_; rintro e w' ⟨rfl, rfl⟩)
    | (go_at_call 34; refine (fateL' _ own A N 4 t H.out (by have := HF.out.sent; omega) HK.out).mono ?_; rintro e w1 ⟨rfl, hN1, hm1⟩))
  all_goals
    have hs : Mv (fun _ => False) w1 (w1.alloc (.cells #[.int .i64 4, .int .i64 t] 63)) := (Mv.refl _ _).alloc _
    refine (send_now _ own A N.took i ad _ cap (l.take t) (hN1.still hs) hi HO.out (by rw [List.length_take, HN.out]; omega) (((HM.out.keep hm1 (Grows.refl _ _)).still hs).take t).2.2 (by omega)).mono ?_
    rintro e w2 ⟨rfl, hL⟩
    go_wp2
    go_ret
    obtain ⟨own', r1, r2, r3⟩ := hL
    exact Leaves.trans (hm1.trans' hs (fun _ _ h => h.elim)) (Grows.refl _ _) ⟨rfl, own', r1, r2, r3⟩

theorem ub_spoilt_get {l : List Int} {t j : Nat} {u : Value} (h : (ub (spoilt l t))[j]? = some u) : (j = t ∧ u = .int .u8 (bits BinOp.xor IntKind.u8 (l.getD t 0) 1) ∧ t < l.length) ∨ (j ≠ t ∧ (ub l)[j]? = some u) := by
  simp only [ub, spoilt, List.getElem?_map, List.getElem?_set] at h ⊢
  by_cases hj : t = j
  · subst hj
    by_cases hl : t < l.length
    · simp [hl] at h
      exact .inl ⟨rfl, by rw [← h]; simp [List.getD_eq_getElem?_getD, hl], hl⟩
    · simp [hl] at h
  · simp only [hj, if_false] at h
    exact .inr ⟨fun e => hj e.symm, h⟩

theorem cell_msg {w : World} {g : Nat} {v : Value} {l : List Int} (h : MsgAt w g v l) {t : Nat} (ht : t < l.length) : w.cell? ⟨g, t, none⟩ = some (.int .u8 (l.getD t 0)) := by
  have := h.cells t (.int .u8 (l.getD t 0)) (by simp [ub, List.getD_eq_getElem?_getD, List.getElem?_eq_getElem ht])
  have e1 : (⟨g, 0, none⟩ : Addr).add t = ⟨g, t, none⟩ := by unfold Addr.add; split <;> simp_all
  rw [e1] at this; exact this
theorem free_msg {w : World} {g : Nat} {v : Value} {l : List Int} (h : MsgAt w g v l) (t : Nat) : w.frozen? ⟨g, t, none⟩ = false := by
  obtain ⟨cap, cur, _, hg, _⟩ := h
  exact free_of_heap hg t

theorem MsgIn_spoilt {w : World} {own : Own} {g : Nat} {v : Value} {l : List Int} {t : Nat} (h : MsgAt w g v l) (ho : own g = none) (ht : t < l.length) :
    MsgIn (w.setCell ⟨g, t, none⟩ (.int .u8 (bits BinOp.xor IntKind.u8 (l.getD t 0) 1))) own ⟨g, 0, none⟩ (spoilt l t) := by
  refine ⟨ho, by simpa [World.setCell] using h.lt, fun j u hj => ?_⟩
  have e1 : ∀ j, (⟨g, 0, none⟩ : Addr).add j = ⟨g, j, none⟩ := fun j => by unfold Addr.add; split <;> simp_all
  have hc := h.cells
  obtain ⟨cap, cur, _, hg, h1, h2, h3, h4⟩ := h
  have hset := heap_setCell_same (j := t) hg (.int .u8 (bits BinOp.xor IntKind.u8 (l.getD t 0) 1))
  rw [e1, cell_of_row _ g j _ 5 (0, 0) hset]
  rcases ub_spoilt_get hj with ⟨rfl, rfl, _⟩ | ⟨hne, hj'⟩
  · rw [Array.getElem?_setIfInBounds_self]
    rw [if_pos (by omega)]
  · have := hc j u hj'
    rw [e1, cell_of_row w g j cur 5 (0, 0) hg] at this
    rw [Array.getElem?_setIfInBounds_ne (Ne.symm hne)]
    exact this

set_option maxRecDepth 100000 in
set_option maxHeartbeats 1600000 in
/-- A message whose byte is turned. -/
theorem Send_spoil (w : World) (own : Own) (A : Ga) (N : Nt) (i : Nat) (ad : Addr) (n cap : Nat) (l : List Int) (h : NetIs w own A N) (hf : Fit N) (hi : i < N.nl) (hop : (N.lane i).closed = false)
    (hn : l.length = n) (hl : n ≤ 1048576) (hm : MsgIn w own ad l) (t : Nat) (ht : t < n) (hkn : N.fateOf = (5, (t : Int))) :
    Calls Try.prog 18 #[.pointer (some ⟨A.net, 0, none⟩), .int .i64 i, .slice (some ad) n cap] w (Leaves w own A (N.took.pushed i (spoilt l t)) (.returned (.int .i64 0))) := by
  have H := Lib.hid h
  have HF := Lib.hid hf
  have HN := Lib.hid hn
  have HM := Lib.hid hm
  have HK := Lib.hid hkn
  have HO := Lib.hid hop
  obtain ⟨h0, capl, fv, lv, h1, h2, h3, h4, h5⟩ := h
  have g0 : w.cell? ⟨A.net, 0, none⟩ = some (.slice (some ⟨A.arr, 0, none⟩) N.nl capl) := cell_of_heap h1.2 0 rfl
  have g1 := h2.cell hi
  have gq : w.cell? ⟨A.q i, 1, none⟩ = some (.bool false) := by rw [← hop]; exact cell_of_heap (h5 i hi).2.2.1 1 rfl
  have hii : (i : Int) < N.nl := by omega
  have htl : t < l.length := by omega
  have htl1 : (t : Int) < (l.length : Int) := by omega
  have hlong : ¬ ((1048576 : Int) < n) := by omega
  have hlong' : decide ((n : Int) > 1048576) = false := by simp; omega
  clear h0 h1 h2 h3 h4 h5 hf hn hm hkn hop
  go_enter Try.func18, Try.ntmps18
  go_wp2_with (first
    | (go_at_call 33; refine (has_yes _ A.net N.nl capl _ _ g0 (by omega) (by omega)).mono ?_; rintro e w' ⟨rfl, rfl⟩)
    | (go_at_call 34; refine (fateL' _ own A N 5 t H.out (by have := HF.out.sent; omega) HK.out).mono ?_; rintro e w1 ⟨rfl, hN1, hm1⟩)
    | (go_at_call 36; have hs : Mv (fun _ => False) w1 (w1.alloc (.cells #[.int .i64 5, .int .i64 t] 63)) := (Mv.refl _ _).alloc _; have hF : (w1.alloc (.cells #[.int .i64 5, .int .i64 t] 63)).heap[w1.heap.size]? = some (.cells #[.int .i64 5, .int .i64 t] 63 (0, 0)) := heap_alloc_new _ _; refine (clone_any _ ad n cap l HN.out ((HM.out.keep hm1 (Grows.refl _ _)).still hs).2.2 (by omega)).mono ?_; rintro e w2 ⟨v, g, rfl, hmg, hg, hb2⟩; have hcF : w2.cell? ⟨w1.heap.size, 1, none⟩ = some (.int .i64 t) := cell_of_heap ((hb2.block _ (lt_of_heap hF)).trans hF) 1 rfl; have hcm := cell_msg hmg htl; have hfm := free_msg hmg t; have HMG := Lib.hid hmg; have HS := Lib.hid hs; have HB2 := Lib.hid hb2; have HG := Lib.hid hg; obtain ⟨cpm, curm, rfl, _⟩ := hmg; clear hF hs hb2 hg))
  rw [show l[t] = l.getD t 0 from by simp [List.getD_eq_getElem?_getD, htl]]
  have hlg : own g = none := hN1.1.none (Nat.le_trans HS.out.size HG.out)
  have hm2 : Mv (fun _ => False) w1 (w2.setCell ⟨g, t, none⟩ (.int .u8 (bits BinOp.xor IntKind.u8 (l.getD t 0) 1))) :=
    (HS.out.trans' (Mv.of_below HB2.out) (fun _ _ h => h)).setCell (.inr (Nat.le_trans HS.out.size HG.out)) _
  have hM := MsgIn_spoilt HMG.out hlg htl
  refine (send_now _ own A N.took i ⟨g, 0, none⟩ _ cpm (spoilt l t) (hN1.still hm2) hi HO.out (by simp [spoilt]) hM.2.2 (by have := HN.out; omega)).mono ?_
  rintro e w3 ⟨rfl, own', r1, r2, r3⟩
  go_wp2
  go_ret
  exact Leaves.trans (hm1.trans' hm2 (fun _ _ h => h.elim)) (Grows.refl _ _) ⟨rfl, own', r1, r2, r3⟩

set_option maxRecDepth 100000 in
set_option maxHeartbeats 1600000 in
/-- A message that has no such byte. -/
theorem Send_spoil_no (w : World) (own : Own) (A : Ga) (N : Nt) (i : Nat) (ad : Addr) (n cap : Nat) (l : List Int) (h : NetIs w own A N) (hf : Fit N) (hi : i < N.nl) (hop : (N.lane i).closed = false)
    (hn : l.length = n) (hl : n ≤ 1048576) (hm : MsgIn w own ad l) (t : Nat) (ht : n ≤ t) (hkn : N.fateOf = (5, (t : Int))) :
    Calls Try.prog 18 #[.pointer (some ⟨A.net, 0, none⟩), .int .i64 i, .slice (some ad) n cap] w (Leaves w own A (N.took.pushed i l) (.returned (.int .i64 0))) := by
  have H := Lib.hid h
  have HF := Lib.hid hf
  have HN := Lib.hid hn
  have HM := Lib.hid hm
  have HK := Lib.hid hkn
  have HO := Lib.hid hop
  obtain ⟨h0, capl, fv, lv, h1, h2, h3, h4, h5⟩ := h
  have g0 : w.cell? ⟨A.net, 0, none⟩ = some (.slice (some ⟨A.arr, 0, none⟩) N.nl capl) := cell_of_heap h1.2 0 rfl
  have g1 := h2.cell hi
  have gq : w.cell? ⟨A.q i, 1, none⟩ = some (.bool false) := by rw [← hop]; exact cell_of_heap (h5 i hi).2.2.1 1 rfl
  have hii : (i : Int) < N.nl := by omega
  have htl : l.length ≤ t := by omega
  have htl1 : (l.length : Int) ≤ (t : Int) := by omega
  have hlong : ¬ ((1048576 : Int) < n) := by omega
  have hlong' : decide ((n : Int) > 1048576) = false := by simp; omega
  clear h0 h1 h2 h3 h4 h5 hf hn hm hkn hop
  go_enter Try.func18, Try.ntmps18
  go_wp2_with (first
    | (go_at_call 33; refine (has_yes _ A.net N.nl capl _ _ g0 (by omega) (by omega)).mono ?_; rintro e w' ⟨rfl, rfl⟩)
    | (go_at_call 34; refine (fateL' _ own A N 5 t H.out (by have := HF.out.sent; omega) HK.out).mono ?_; rintro e w1 ⟨rfl, hN1, hm1⟩)
    | (go_at_call 36; have hs : Mv (fun _ => False) w1 (w1.alloc (.cells #[.int .i64 5, .int .i64 t] 63)) := (Mv.refl _ _).alloc _; have hF : (w1.alloc (.cells #[.int .i64 5, .int .i64 t] 63)).heap[w1.heap.size]? = some (.cells #[.int .i64 5, .int .i64 t] 63 (0, 0)) := heap_alloc_new _ _; refine (clone_any _ ad n cap l HN.out ((HM.out.keep hm1 (Grows.refl _ _)).still hs).2.2 (by omega)).mono ?_; rintro e w2 ⟨v, g, rfl, hmg, hg, hb2⟩; have hcF : w2.cell? ⟨w1.heap.size, 1, none⟩ = some (.int .i64 t) := cell_of_heap ((hb2.block _ (lt_of_heap hF)).trans hF) 1 rfl; have HMG := Lib.hid hmg; have HS := Lib.hid hs; have HB2 := Lib.hid hb2; have HG := Lib.hid hg; obtain ⟨cpm, curm, rfl, _⟩ := hmg; clear hF hs hb2 hg))
  have hlg : own g = none := hN1.1.none (Nat.le_trans HS.out.size HG.out)
  have hm2 : Mv (fun _ => False) w1 w2 := HS.out.trans' (Mv.of_below HB2.out) (fun _ _ h => h)
  refine (send_now _ own A N.took i ⟨g, 0, none⟩ _ cpm l (hN1.still hm2) hi HO.out rfl HMG.out.cells (by have := HN.out; omega)).mono ?_
  rintro e w3 ⟨rfl, own', r1, r2, r3⟩
  go_wp2
  go_ret
  exact Leaves.trans (hm1.trans' hm2 (fun _ _ h => h.elim)) (Grows.refl _ _) ⟨rfl, own', r1, r2, r3⟩
end Go.Proofs.Ytadalodjnbnjkaa
