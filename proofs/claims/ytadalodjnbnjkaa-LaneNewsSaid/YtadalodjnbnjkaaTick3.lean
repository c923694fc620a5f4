/- tick, walked. -/
import Derived.Test.YtadalodjnbnjkaaTick2
namespace Go.Proofs.Ytadalodjnbnjkaa
open Go.RowKit Go.Conc

theorem LaneIs.still {w w' : World} {own : Own} {A : Ga} {i : Nat} {L : Lq} {sh : Bool} (h : LaneIs w own A i L sh) (hl : Lies w own) (hm : Mv (fun _ => False) w w') : LaneIs w' own A i L sh :=
  h.keep fun b t hb _ => ⟨hb, hm.block b (hl b t hb) id⟩

theorem ownsRow_drewN {w : World} {base : Nat} {e : TypeId} {size n : Nat} {v : Value} {xs : List Value} (h : w.ownsRow base e size v n xs) (k : Nat) : (w.drewN k).ownsRow base e size v n xs := h

set_option maxRecDepth 100000 in
set_option maxHeartbeats 3200000 in
theorem tick_any (w : World) (own : Own) (A : Ga) (N : Nt) (h : NetIs w own A N) (ok : Okn N) (hb1 : N.now < 1099511627776) (hb2 : N.later.length < 1099511627776) (hb3 : ∀ x ∈ N.later, x.due < 4398046511104) :
    Calls Try.prog 48 #[.pointer (some ⟨A.net, 0, none⟩)] w (Leaves w own A N.tick (.returned (.tuple #[]))) := by
  obtain ⟨i0, hi0, hz0, hz1, hz2⟩ := info_parts Try.info115
  obtain ⟨h0, cap, fv, lv, h1, h2, h3, ⟨X, hX, hX2, hX3, hX4⟩, h5⟩ := h
  have hxl : X.length = N.later.length := by rw [← hX]; simp
  have hlv : ∃ la c, lv = .slice la X.length c ∧ (0 < X.length → ∃ g, la = some ⟨g, 0, none⟩) := by
    rcases hX2.2 with ⟨h, hz⟩ | ⟨g, cap, cur, h, _⟩
    · exact ⟨none, 0, by rw [h, hz], fun hh => by omega⟩
    · exact ⟨_, _, h, fun _ => ⟨g, rfl⟩⟩
  obtain ⟨la, lc, rfl, hla⟩ := hlv
  have g3 : w.cell? ⟨A.net, 3, none⟩ = some (.int .i64 N.now) := cell_of_heap h1.2 3 rfl
  have g4 : w.cell? ⟨A.net, 4, none⟩ = some (.slice la X.length lc) := cell_of_heap h1.2 4 rfl
  have gf := free_of_heap h1.2 3
  have H0 := Lib.hid h0
  have H1 := Lib.hid h1
  have H2 := Lib.hid h2
  have H3 := Lib.hid h3
  have H5 := Lib.hid h5
  have HX := Lib.hid hX
  have HX2 := Lib.hid hX2
  have HX3 := Lib.hid hX3
  have HX4 := Lib.hid hX4
  have HXL := Lib.hid hxl
  have HLA := Lib.hid hla
  have hx3 : X.length < 1099511627776 := by omega
  have HB3 := Lib.hid hb3
  clear h0 h1 h2 h3 h5 hX hX2 hX3 hX4 hxl hla hb3
  go_enter Try.func48, Try.ntmps48
  go_wp2_with fail
  have hh : (w.setCell ⟨A.net, 3, none⟩ (.int .i64 ((N.now : Int) + 1))).heap[A.net]? = some (.cells #[.slice (some ⟨A.arr, 0, none⟩) N.nl cap, fv, .int .i64 N.sent, .int .i64 ((N.now + 1 : Nat) : Int), .slice la X.length lc] 82 (0, 0)) := by
    rw [heap_setCell_same H1.out.2]; simp
  have hne : ∀ b t, own b = some t → t ≠ .net → own b = some t ∧ (w.setCell ⟨A.net, 3, none⟩ (.int .i64 ((N.now : Int) + 1))).heap[b]? = w.heap[b]? := fun b t hb ht =>
    ⟨hb, heap_setCell_other (fun e => by rw [e, H1.out.1] at hb; cases hb; exact ht rfl) _⟩
  obtain ⟨w0, hw0⟩ : ∃ w0, w0 = w.setCell ⟨A.net, 3, none⟩ (.int .i64 ((N.now : Int) + 1)) := ⟨_, rfl⟩
  rw [← hw0] at hh hne ⊢
  have hsz0 : w0.heap.size = w.heap.size := by rw [hw0]; simp [World.setCell]
  have B : TickBase w0 own A N cap fv (.slice la X.length lc) X := ⟨H0.out.mono (by omega), ⟨H1.out.1, hh⟩, H2.out.keep (fun ho => hne _ _ ho (by simp)), H3.out.keep (fun b hb => hne _ _ hb (by simp)), HX.out,
    ownsRow_keep HX2.out (fun b hb => (hne b _ (HX3.out b hb) (by simp)).2), HX3.out, HX4.out.keep (fun b hb => hne _ _ hb (by simp)), ok⟩
  have hL0 : ∀ i, i < N.nl → LaneIs w0 own A i (N.lane i) (N.lane i).shut := fun i hi => (H5.out i hi).keep fun b t hb ht => hne b t hb (by rcases ht with rfl | rfl | ⟨k, rfl⟩ <;> simp)
  have R0 := tick_start B hL0
  have hmv0 : Mv own.has w w0 := by rw [hw0]; exact (Mv.refl _ _).setCell (.inl (by unfold Own.has; rw [H1.out.1]; simp)) _
  have HMV := Lib.hid hmv0
  have HSZ := Lib.hid hsz0
  have HB := Lib.hid B
  have HL0 := Lib.hid hL0
  clear hw0 hh hne B hL0 hmv0 hsz0 g3 g4 gf
  go_loopw [2, 18] (fun left i wr => ∃ k : Nat, k ≤ X.length ∧ i = .int .i64 k ∧ TickRel w0 own A N X k left wr) (fun _ i _ => X.length - (intOf i).toNat)
  case atStart => exact ⟨0, Nat.zero_le _, rfl, R0⟩
  case round =>
    obtain ⟨k, hk, rfl, hrel⟩ := hrel
    have HR := Lib.hid hrel
    obtain ⟨ownk, Xl, hs, hl, hm, hst, hXl, hXm, hrow, hleft, hlane⟩ := hrel
    have cn3 : wr.cell? ⟨A.net, 3, none⟩ = some (.int .i64 ((N.now : Int) + 1)) := by
      have := cell_of_heap ((hst _ _ HB.out.head.1 (.inl rfl)).trans HB.out.head.2) 3 rfl
      rw [this]; simp
    have cn0 : wr.cell? ⟨A.net, 0, none⟩ = some (.slice (some ⟨A.arr, 0, none⟩) N.nl cap) := cell_of_heap ((hst _ _ HB.out.head.1 (.inl rfl)).trans HB.out.head.2) 0 rfl
    have cnf : wr.frozen? ⟨A.net, 4, none⟩ = false := free_of_heap ((hst _ _ HB.out.head.1 (.inl rfl)).trans HB.out.head.2) 4
    have cn4 : wr.cell? ⟨A.net, 4, none⟩ = some (.slice la X.length lc) := cell_of_heap ((hst _ _ HB.out.head.1 (.inl rfl)).trans HB.out.head.2) 4 rfl
    have hnl : A.net < wr.heap.size := lt_of_heap ((hst _ _ HB.out.head.1 (.inl rfl)).trans HB.out.head.2)
    by_cases hlt : k < X.length
    · obtain ⟨gl, hgl⟩ := HLA.out (by omega)
      subst hgl
      obtain ⟨⟨⟨due, j, m⟩, v⟩, hx⟩ : ∃ x, X[k]? = some x := ⟨_, List.getElem?_eq_getElem hlt⟩
      have hkl : k < N.later.length := by rw [← HXL.out]; exact hlt
      have hxl : N.later[k] = ⟨due, j, m⟩ := by
        have : (X.map Prod.fst)[k]? = some (⟨due, j, m⟩ : Ml) := by simp [hx]
        rw [HX.out, List.getElem?_eq_getElem hkl] at this
        exact Option.some.inj this
      have hmem : (⟨due, j, m⟩ : Ml) ∈ N.later := by rw [← hxl]; exact List.getElem_mem _
      have hjm := ok.later _ hmem
      simp only at hjm
      have hgb : own gl = some .later := HX3.out gl rfl
      have hbl := hst _ _ hgb (by simp [static])
      have e1 : ∀ i, (⟨gl, 0, none⟩ : Addr).add i = ⟨gl, i, none⟩ := fun i => by unfold Addr.add; split <;> simp_all
      have hget := latCells_get X k _ hx
      have cc := (ownsRow_keep HB.out.row (w' := wr) (fun b hb => by simp [Value.ownBlock] at hb; subst hb; exact hbl)).cells (g := gl) rfl
      have c1 : wr.cell? ⟨gl, k * 3, none⟩ = some (.int .i64 due) := by have := cc _ _ hget.1; rw [e1] at this; exact this
      have c2 : wr.cell? ⟨gl, k * 3 + 1, none⟩ = some (.int .i64 j) := by have := cc _ _ hget.2.1; rw [e1] at this; exact this
      have c3 : wr.cell? ⟨gl, k * 3 + 2, none⟩ = some v := by have := cc _ _ hget.2.2; rw [e1] at this; exact this
      obtain ⟨g, hg, hmg⟩ := HB.out.lat _ (List.mem_of_getElem? hx)
      simp only at hmg
      have hmg := hmg.of_block (hst _ _ hg (by simp [static]))
      have HMG := Lib.hid hmg
      obtain ⟨mc, mcur, rfl, hmrest⟩ := hmg
      have hkk : (k : Int) < X.length := by omega
      have hk0 : (0 : Int) ≤ k := by omega
      have hgll : gl < wr.heap.size := World.block_lt_of_cell? _ _ c1
      have HRest := Lib.hid hmrest
      have HHx := Lib.hid hx
      have HXm := Lib.hid hXm
      have HXl := Lib.hid hXl
      have HLeft := Lib.hid hleft
      have HLane := Lib.hid hlane
      have HST := Lib.hid hst
      have HMEM := Lib.hid hmem
      have HHXL := Lib.hid hxl
      have hlen : Xl.length ≤ k := by
        have h1 := ticked_len N k (by omega)
        rw [← hXl] at h1
        simpa using h1
      clear hx hXm hXl hleft hlane hst cc hget e1 hbl hgb hmrest hmem hxl
      by_cases hdue : N.now + 1 < due
      · have hd : decide ((N.now : Int) + 1 < due) = true := by simp; omega
        have hd2 : (N.now : Int) + 1 < due := by omega
        go_wp2_with fail
        go_quiet (fail)
        go_wp2_with (at_builtin; refine wpList_append_lies _ rfl _ _ 80 rfl w0.heap.size 115 i0 _ 3 40 Try.underlying80 hi0 hz0 hz1 hz2 rfl (by decide) _ Xl.length (latCells Xl) rfl ?c0 ⟨wr.heap.size + 1, 0, none⟩ 1 1 [.int .i64 due, .int .i64 j, .slice (some ⟨g, 0, none⟩) m.length mc] rfl rfl ?c1 ?c2 ?c3 ?c4 ?c5 ?c6 (wr.heap.size + 1 + 1) ?c7 ?_)
        case c0 => exact (ownsRow_drewN (hrow.alloc _) nq).alloc _
        case c1 =>
          refine World.news_of_block (cs := #[.int .i64 due, .int .i64 j, .slice (some ⟨g, 0, none⟩) m.length mc]) (t := 115) (fr := (0, 0)) ?_
          have := heap_alloc_new ((wr.alloc (.cells #[.int .i64 due, .int .i64 j, .slice (some ⟨g, 0, none⟩) m.length mc] 115)).drewN nq) (.cells #[.int .i64 due, .int .i64 j, .slice (some ⟨g, 0, none⟩) m.length mc] 115)
          simpa using this
        case c2 =>
          intro u hu
          simp at hu
          rcases hu with rfl | rfl | rfl <;> rfl
        case c3 => omega
        case c4 => unfold maxLen; omega
        case c5 => omega
        case c6 => have := hm.size; simp; omega
        case c7 => simp
        intro gg cp w1 hown1 hgrow hat hlt1
        have hR := tick_skip (k := k) (left' := .slice (some ⟨gg, 0, none⟩) (Xl.length + 1) cp) (gg := gg) HB.out (by rw [← HXL.out]; exact hlt) HHx.out hdue hs hl hm HST.out HXl.out HXm.out (fun b hb => ⟨(hrow.lt b hb).1, HLeft.out b hb⟩) HLane.out ((((Mv.refl _ _).alloc _).drewN _).alloc _) hown1 hgrow rfl (hat.imp id (fun h => by omega))
        have HRR := Lib.hid hR
        clear hown1 hgrow hat hR hrow hm hs hl
        go_wp2
        go_roundw
        case rel => exact ⟨k + 1, by omega, by go_num, HRR.out⟩
        case measure => simp [intOf]; omega
      · have hd : decide ((N.now : Int) + 1 < due) = false := by simp; omega
        have hjn : (j : Int) < N.nl := by omega
        have hj0 : (0 : Int) ≤ j := by omega
        have ca := (HB.out.arr.keep (w' := wr) (own' := own) (fun ho => ⟨ho, HST.out _ _ ho (by simp [static])⟩)).cell hjm.1
        have hal : A.arr < wr.heap.size := World.block_lt_of_cell? _ _ ca
        go_wp2_with fail
        go_quiet (fail)
        go_wp2_with fail
        go_quiet (fail)
        go_wp2_with fail
        have hqn : ∀ i, i < N.nl → own (A.c i) = some (.c i) ∧ own (A.q i) = some (.q i) := fun i hi => ⟨(HL0.out i hi).2.1, (HL0.out i hi).1⟩
        have hco := ticked_coming N ok k (by omega) j hjm.1
        rw [List.drop_eq_getElem_cons hkl, cnt_cons, HHXL.out] at hco
        simp only [if_true] at hco
        have hL := HLane.out j hjm.1
        obtain ⟨L, hLd⟩ : ∃ L, L = (N.ticked k).1 j := ⟨_, rfl⟩
        rw [← hLd] at hL hco
        have hsh : L.shut = false := by simp [Lq.shut]; omega
        rw [hsh] at hL
        have hcb : L.coming < 4398046511104 := by
          have e1 := cnt_le j (N.ticked k).2
          have e2 := cnt_le j (N.later.drop (k + 1))
          have e3 := ticked_len N k (by omega)
          simp only [List.length_drop] at e2
          omega
        have hc1 : 1 ≤ L.coming := by omega
        have hst1 : ∀ n, Mv (fun _ => False) wr ((wr.alloc (.cells #[.int .i64 due, .int .i64 j, .slice (some ⟨g, 0, none⟩) m.length mc] 115)).drewN n) := fun n => ((Mv.refl _ _).alloc _).drewN _
        have HCO := Lib.hid hco
        have HLD := Lib.hid hLd
        clear hco hLd hsh
        refine (comeL _ ownk A j L ⟨g, 0, none⟩ m.length mc m (hL.still hl (hst1 _)) (hl.mono (hst1 _).size) rfl (HMG.out.of_block ((hst1 _).block _ HMG.out.lt id)).cells (by omega)).mono ?_
        rintro e w2 ⟨rfl, hmv2, own2, hs2, hl2, hL2⟩
        have cq2 : w2.cell? ⟨A.q j, 2, none⟩ = some (.int .i64 L.coming) := cell_of_heap hL2.2.2.1 2 rfl
        have cqf : w2.frozen? ⟨A.q j, 2, none⟩ = false := free_of_heap hL2.2.2.1 2
        have HQN := Lib.hid hqn
        have HST1 := Lib.hid hst1
        have HS2 := Lib.hid hs2
        have HL2 := Lib.hid hL2
        have HMV2 := Lib.hid hmv2
        clear hqn hst1 hs2 hL2 hmv2 hL
        go_wp2_with fail
        refine (endL _ own2 A j { L.push m with coming := L.coming - 1 } (HL2.out.less hc1)).mono ?_
        rintro e w3 ⟨rfl, hmv3, hL3⟩
        have hsz2 := HMV2.out.size
        have hsz3 := hmv3.size
        have hR : TickRel w0 own A N X (k + 1) u2 w3 := by
          refine tick_come (k := k) (wr := wr) (own' := own2) HB.out hkl HHx.out hdue hs hl hm HST.out HXl.out HXm.out hrow HLeft.out HLane.out hjm.1 ?_ ?_ ?_ ?_ HQN.out
          · refine ((((HST1.out _).mono (fun _ _ h => h.elim)).trans' HMV2.out (fun _ _ h => .inl h)).setCell (.inl (.inr rfl)) _).trans' hmv3 (fun _ _ h => .inl h)
          · exact fun b hb => HS2.out b (Nat.lt_of_lt_of_le hb (HST1.out _).size)
          · exact (hl2.mono (by simp [World.setCell])).mono hsz3
          · simp only [← HLD.out]; exact hL3
        have HRR := Lib.hid hR
        clear hR hrow hm hs hl hmv3 hL3
        go_wp2
        go_roundw
        case rel => exact ⟨k + 1, by omega, by go_num, HRR.out⟩
        case measure => simp [intOf]; omega
    · have hge : (X.length : Int) ≤ (k : Int) := by omega
      obtain ⟨ua, un, uc, rfl⟩ : ∃ a n c, u2 = .slice a n c := by
        rcases hrow.2 with ⟨h, _⟩ | ⟨g, c, cur, h, _⟩
        · exact ⟨_, _, _, h⟩
        · exact ⟨_, _, _, h⟩
      clear hs hl hm hst hXl hXm hrow hleft hlane
      go_wp2
      have hke : k = X.length := by omega
      refine bodyPost_end (results_none rfl _ _ _) rfl ?_
      have := tick_end HB.out (wr := wr) (left := .slice ua un uc) (by rw [← HXL.out, ← hke]; exact HR.out)
      exact Leaves.trans HMV.out (Grows.refl _ _) this
end Go.Proofs.Ytadalodjnbnjkaa
