/- Beside a net that a statement holds: lent, same, short, num. -/
import Derived.Test.YtadalodjnbnjkaaPlay09
import Derived.OpenShut
import Derived.Deep.RegionLaw
import Derived.Deep.RegionHeld3
namespace Go.Proofs.Ytadalodjnbnjkaa
open Go.RowKit Go.Conc

/-- A slice of bytes that came in, cut by short. -/
theorem short_row {w : World} {a : Option Addr} {len cap : Nat} {zs : List Int}
    (h : (a = none ∧ len = 0 ∧ cap = 0 ∧ zs = []) ∨
      ∃ x, a = some x ∧ len ≤ cap ∧ cap ≤ maxLen ∧ zs.length = cap ∧ (∀ i, i < zs.length → w.cell? (x.add i) = some (.int .u8 (zs.getD i 0))) ∧ ∀ n ∈ zs, (Lit.int .u8 n).wf = true) :
    ∃ n l, n ≤ 4096 ∧ n ≤ cap ∧ RowIn w a n l ∧ ∀ W, Calls Try.prog 23 #[.slice a len cap] W (fun e w' => e = .returned (.slice a n cap) ∧ W = w') := by
  rcases h with ⟨rfl, rfl, rfl, rfl⟩ | ⟨x, rfl, hl, hm, hz, hc, _⟩
  · exact ⟨0, [], by omega, by omega, ⟨rfl, .inl rfl⟩, fun W => short_le W _ _ _ (by omega)⟩
  · have row : ∀ n, n ≤ len → RowIn w (some x) n (zs.take n) := fun n hn => by
      refine ⟨by rw [List.length_take]; omega, ?_⟩
      by_cases h0 : n = 0
      · exact .inl h0
      · obtain ⟨b, off, rfl, hcc⟩ := ints_at hc (by omega)
        refine .inr ⟨b, off, rfl, fun j hj => ?_⟩
        rw [hcc j (by omega)]
        congr 2
        rw [List.getD_eq_getElem?_getD, List.getD_eq_getElem?_getD, List.getElem?_take, if_pos hj]
    by_cases h4 : len ≤ 4096
    · exact ⟨len, zs.take len, h4, hl, row len (Nat.le_refl _), fun W => short_le W _ _ _ h4⟩
    · exact ⟨4096, zs.take 4096, by omega, by omega, row 4096 (by omega), fun W => short_gt W x len cap (by omega) hl⟩

section
variable {w wr : World} {A : Ga} {N : Nt} {K : List Nat}
def LentH (w : World) (A : Ga) (N : Nt) (K : List Nat) (l : List Int) (n : Nat) (wr : World) (e : Ending) (w' : World) : Prop :=
  ∃ g, e = .returned (.slice (some ⟨g, 0, none⟩) (n + 200) (n + 200)) ∧ RowIn w' (some ⟨g, 0, none⟩) n l ∧ Holds w A N (g :: K) w' ∧ Kept w K wr w'
theorem Holds.lent (h : Holds w A N K wr) {a : Option Addr} {n c : Nat} {l : List Int} (hr : RowIn wr a n l) (hsz : n ≤ 1099511627776) :
    Calls Try.prog 24 #[.slice a n c] wr (LentH w A N K l n wr) := by
  refine (lent_any wr a n c l hr hsz).mono ?_
  rintro e w' ⟨g, cur, rfl, h1, h2, h3, h4, h5, h6⟩
  exact ⟨g, rfl, ⟨hr.1, .inr ⟨g, 0, rfl, fun j hj => by rw [Nat.zero_add]; exact cell_of_heap h3 j (h5 j hj)⟩⟩, h.new (Mv.of_below h2) h1 (lt_of_heap h3), Kept.still (Mv.of_below h2) h⟩

/-- A step that writes nothing. -/
def CalmH (w : World) (A : Ga) (N : Nt) (K : List Nat) (v : Value) (wr : World) (e : Ending) (w' : World) : Prop := e = .returned v ∧ Holds w A N K w' ∧ w'.heap = wr.heap
theorem Holds.same (h : Holds w A N K wr) {a1 a2 : Option Addr} {n1 c1 n2 c2 : Nat} {l1 l2 : List Int} (h1 : RowIn wr a1 n1 l1) (h2 : RowIn wr a2 n2 l2) (hs : n1 ≤ 1099511627776) :
    Calls Try.prog 22 #[.slice a1 n1 c1, .slice a2 n2 c2] wr (CalmH w A N K (.bool (sameB l1 l2)) wr) := by
  refine (same_any wr a1 a2 n1 c1 n2 c2 l1 l2 h1 h2 hs).mono ?_
  rintro e w' ⟨rfl, d, rfl⟩
  exact ⟨rfl, h.still ((Mv.refl _ _).drewN d), rfl⟩
theorem RowIn.of_heap {w w' : World} {a : Option Addr} {n : Nat} {l : List Int} (h : RowIn w a n l) (hh : w'.heap = w.heap) : RowIn w' a n l := h.keep fun ad _ => by rw [hh]
theorem RowIn.kept {w' : World} {b : Nat} {off n : Nat} {l : List Int} (h : RowIn wr (some ⟨b, off, none⟩) n l) (hk : Kept w K wr w') (hb : b ∈ K) : RowIn w' (some ⟨b, off, none⟩) n l :=
  h.keep fun ad ha => by cases ha; exact hk.2 b (.inl hb)
theorem Holds.row (h : Holds w A N K wr) {a : Option Addr} {n : Nat} {l : List Int} (hr : RowIn w a n l) : RowIn wr a n l := hr.still h.below
end
end Go.Proofs.Ytadalodjnbnjkaa

/- sends: a net on which all messages of these lanes were sent, each at its time. -/
namespace Go.Proofs.Ytadalodjnbnjkaa
open Go.RowKit Go.Conc

/-- The messages in memory: five cells each. -/
def SentsIn (w : World) (lb : Nat) (S : List Snt) : Prop :=
  ∀ i s, S[i]? = some s → ∃ a c, w.cell? ⟨lb, i * 5, none⟩ = some (.int .i64 s.gap) ∧ w.cell? ⟨lb, i * 5 + 1, none⟩ = some (.int .i64 s.lane) ∧ w.cell? ⟨lb, i * 5 + 2, none⟩ = some (.slice a s.data.length c) ∧
    w.cell? ⟨lb, i * 5 + 3, none⟩ = some (.int .i64 s.fate.1) ∧ w.cell? ⟨lb, i * 5 + 4, none⟩ = some (.int .i64 s.fate.2) ∧ RowIn w a s.data.length s.data
theorem SentsIn.still {w w' : World} {lb : Nat} {S : List Snt} (h : SentsIn w lb S) (hb : Below w.heap.size w w') : SentsIn w' lb S := by
  intro i s hs
  obtain ⟨a, c, h1, h2, h3, h4, h5, h6⟩ := h i s hs
  have hl := World.block_lt_of_cell? w _ h1
  have e : ∀ j, w'.cell? ⟨lb, j, none⟩ = w.cell? ⟨lb, j, none⟩ := fun j => hb.cell (p := ⟨lb, j, none⟩) hl
  exact ⟨a, c, (e _).trans h1, (e _).trans h2, (e _).trans h3, (e _).trans h4, (e _).trans h5, h6.still hb⟩

/-- New of two lanes over fates that a loop has gathered. -/
theorem New_row (wr : World) (B : Nat) (fv : Value) (F : List (Int × Int)) (h : wr.ownsRow B 63 2 fv F.length (fateCells F)) (hmay : ∀ f ∈ F, mayF f) (hlen : F.length ≤ 65536) :
    Calls Try.prog 12 #[.int .i64 2, fv] wr (Newed wr 2 F) := by
  rcases h.2 with ⟨rfl, hz⟩ | ⟨g, cap, cur, rfl, hb, hg, h1, h2, h3, h4⟩
  · obtain rfl : F = [] := List.eq_nil_of_length_eq_zero hz
    exact New_nil_2 wr
  · have hc := h.cells (g := g) rfl
    have e1 : ∀ i, (⟨g, 0, none⟩ : Addr).add i = ⟨g, i, none⟩ := fun i => by unfold Addr.add; split <;> simp_all
    exact New_ok wr 2 g F.length cap F (by omega) (by omega) rfl hlen hmay fun j hj => by
      have := fateCells_get F j hj
      have q1 := hc _ _ this.1
      have q2 := hc _ _ this.2
      rw [e1] at q1 q2
      exact ⟨q1, q2⟩

def FRel (w : World) (b1 b2 : Bool) (S : List Snt) (k : Nat) (fv : Value) (wr : World) : Prop :=
  Below w.heap.size w wr ∧ wr.ownsRow w.heap.size 63 2 fv (fatesOf b1 b2 (S.take k)).length (fateCells (fatesOf b1 b2 (S.take k)))

theorem fatesOf_snoc (b1 b2 : Bool) (S : List Snt) (s : Snt) : fatesOf b1 b2 (S ++ [s]) = fatesOf b1 b2 S ++ (if sel b1 b2 s = true then [s.fate] else []) := by
  unfold fatesOf
  rw [List.filter_append, List.map_append]
  congr 1
  by_cases h : sel b1 b2 s = true <;> simp [h]
theorem fatesOf_len (b1 b2 : Bool) (S : List Snt) : (fatesOf b1 b2 S).length ≤ S.length := by
  unfold fatesOf; rw [List.length_map]; exact List.length_filter_le _ _
theorem fateCells_snoc (F : List (Int × Int)) (f : Int × Int) : fateCells (F ++ [f]) = fateCells F ++ [.int .i64 f.1, .int .i64 f.2] := by simp [fateCells]

theorem FRel.no {w wr : World} {b1 b2 : Bool} {S : List Snt} {k : Nat} {fv : Value} {s : Snt} (h : FRel w b1 b2 S k fv wr) (hs : S[k]? = some s) (hn : sel b1 b2 s = false) : FRel w b1 b2 S (k + 1) fv wr := by
  have hk := (List.getElem?_eq_some_iff.1 hs)
  have e : fatesOf b1 b2 (S.take (k + 1)) = fatesOf b1 b2 (S.take k) := by
    rw [List.take_succ_eq_append_getElem hk.1, hk.2, fatesOf_snoc, hn]; simp
  unfold FRel
  rw [e]; exact h
theorem FRel.yes {w wr wr' : World} {b1 b2 : Bool} {S : List Snt} {k gg cap : Nat} {fv : Value} {s : Snt} (h : FRel w b1 b2 S k fv wr) (hs : S[k]? = some s) (hn : sel b1 b2 s = true) {o : Obj}
    (hgrow : ((wr.alloc o).drew).grownBy wr' fv.ownBlock)
    (hown : wr'.ownsRow w.heap.size 63 2 (.slice (some ⟨gg, 0, none⟩) ((fatesOf b1 b2 (S.take k)).length + 1) cap) ((fatesOf b1 b2 (S.take k)).length + 1) (fateCells (fatesOf b1 b2 (S.take k)) ++ [.int .i64 s.fate.1, .int .i64 s.fate.2])) :
    FRel w b1 b2 S (k + 1) (.slice (some ⟨gg, 0, none⟩) ((fatesOf b1 b2 (S.take k)).length + 1) cap) wr' := by
  have hk := (List.getElem?_eq_some_iff.1 hs)
  have e : fatesOf b1 b2 (S.take (k + 1)) = fatesOf b1 b2 (S.take k) ++ [s.fate] := by
    rw [List.take_succ_eq_append_getElem hk.1, hk.2, fatesOf_snoc, hn]; simp
  unfold FRel
  rw [e, List.length_append, fateCells_snoc]
  have hs' := h.1.size
  exact ⟨((h.1.alloc (by omega) o).drew).grown hgrow (by simp [World.drew]; omega) (fun b hb => (h.2.lt b hb).1), hown⟩

/-- What sends leaves. -/
def SendsP (w : World) (b1 b2 : Bool) (S : List Snt) (e : Ending) (w' : World) : Prop :=
  ∃ A, e = .returned (.tuple #[.pointer (some ⟨A.net, 0, none⟩), .int .i64 (gaps S), .bool true]) ∧ Holds w A (sendsN b1 b2 S) [] w'
end Go.Proofs.Ytadalodjnbnjkaa

/- sends, walked. -/
namespace Go.Proofs.Ytadalodjnbnjkaa
open Go.RowKit Go.Conc

theorem runS_one_yes {b1 b2 : Bool} {M : Nt} {s : Snt} (h : sel b1 b2 s = true) : runS b1 b2 M [s] = (M.ticks s.gap).send s.lane s.data := by
  show stepS b1 b2 M s = _
  unfold stepS; rw [if_pos h]
theorem runS_one_no {b1 b2 : Bool} {M : Nt} {s : Snt} (h : sel b1 b2 s = false) : runS b1 b2 M [s] = M.ticks s.gap := by
  show stepS b1 b2 M s = _
  unfold stepS; rw [if_neg (by rw [h]; simp)]

set_option maxRecDepth 100000 in
set_option maxHeartbeats 3200000 in
theorem sends_any (w : World) (la : Option Addr) (lb n c : Nat) (S : List Snt) (b1 : Bool) (hla : n = 0 ∨ la = some ⟨lb, 0, none⟩) (hn : S.length = n) (hn2 : n ≤ 30) (hS : ∀ s ∈ S, TameS s) (hin : SentsIn w lb S) :
    Calls Try.prog 21 #[.slice la n c, .bool b1, .bool true] w (SendsP w b1 true S) := by
  obtain ⟨i0, hi0, hz0, hz1, hz2⟩ := info_parts Try.info63
  have HIN := Lib.hid hin
  have HS := Lib.hid hS
  have HLA := Lib.hid hla
  have HN := Lib.hid hn
  have hF0 : FRel w b1 true S 0 (.slice none 0 0) w := ⟨Below.refl _ _, World.ownsRow_nil _ _ _ _⟩
  have HF0 := Lib.hid hF0
  clear hin hS hla hn hF0
  go_enter Try.func21, Try.ntmps21
  go_wp2_with fail
  go_loopw [9, 10] (fun fv i wr => ∃ k : Nat, k ≤ n ∧ i = .int .i64 k ∧ FRel w b1 true S k fv wr) (fun _ i _ => n - (intOf i).toNat)
  case atStart => exact ⟨0, Nat.zero_le _, rfl, HF0.out⟩
  case round =>
    obtain ⟨k, hk, rfl, hrel⟩ := hrel
    have HR := Lib.hid hrel
    clear hrel
    by_cases hlt : k < n
    · obtain ⟨⟨gap, lane, data, fk, fn⟩, hs⟩ : ∃ s, S[k]? = some s := ⟨_, List.getElem?_eq_getElem (by rw [HN.out]; exact hlt)⟩
      have hst := HS.out _ (List.mem_of_getElem? hs)
      obtain ⟨a, cd, c0, c1, c2, c3, c4, hrow⟩ := (HIN.out.still HR.out.1) k _ hs
      have hlb : lb < wr.heap.size := World.block_lt_of_cell? _ _ c0
      obtain rfl : la = some ⟨lb, 0, none⟩ := HLA.out.resolve_left (by omega)
      have HSS := Lib.hid hs
      have hkk : (k : Int) < n := by omega
      have hk0 : (0 : Int) ≤ k := by omega
      have hfl := fatesOf_len b1 true (S.take k)
      rw [List.length_take] at hfl
      simp only at c0 c1 c3 c4
      have c4' : wr.cell? ⟨lb, k * 5 + 3 + 1, none⟩ = some (.int .i64 fn) := c4
      have hne : lb ≠ wr.heap.size := by omega
      have hl2 := hst.2.1
      simp only at hl2
      clear hs hrow c2 hst
      by_cases hl : lane = 0
      · subst hl
        cases b1
        · have HSEL : Hid (sel false true ⟨gap, 0, data, fk, fn⟩ = false) := rfl
          go_wp2
          go_roundw
          case rel => exact ⟨k + 1, by omega, by go_num, FRel.no HR.out HSS.out HSEL.out⟩
          case measure => simp [intOf]; omega
        · have HSEL : Hid (sel true true ⟨gap, 0, data, fk, fn⟩ = true) := rfl
          go_wp2_with fail
          go_region_law (refine step_append_lies _ (by rfl) _ _ _ (by rfl) w.heap.size 63 i0 _ 2 16 Try.underlying64 hi0 hz0 hz1 hz2 rfl (by omega) u9 (fatesOf true true (S.take k)).length (fateCells (fatesOf true true (S.take k))) (by rfl) ((HR.out.2.alloc _).drew) ⟨wr.heap.size, 0, none⟩ 1 1 [.int .i64 fk, .int .i64 fn] (by rfl) (by rfl) (World.news_of_block (cs := #[.int .i64 fk, .int .i64 fn]) (t := 63) (fr := (0, 0)) (heap_alloc_new wr _)) (by simp [Value.oneCell']) (by omega) (by unfold maxLen; omega) (by omega) (by have := HR.out.1.size; simp; omega) (wr.heap.size + 1) (by simp) ?_; intro gg cap w3 hown1 hgrow hat hlt1)
          all_goals
            have hR := FRel.yes HR.out HSS.out HSEL.out hgrow hown1
            have HRR := Lib.hid hR
            clear hgrow hown1 hat hlt1 hR
            go_wp2
            go_roundw
            case rel => exact ⟨k + 1, by omega, by go_num, HRR.out⟩
            case measure => simp [intOf]; omega
      · obtain rfl : lane = 1 := by omega
        have HSEL : Hid (sel b1 true ⟨gap, 1, data, fk, fn⟩ = true) := by cases b1 <;> rfl
        go_wp2_with fail
        go_region_law (refine step_append_lies _ (by rfl) _ _ _ (by rfl) w.heap.size 63 i0 _ 2 16 Try.underlying64 hi0 hz0 hz1 hz2 rfl (by omega) u9 (fatesOf b1 true (S.take k)).length (fateCells (fatesOf b1 true (S.take k))) (by rfl) ((HR.out.2.alloc _).drew) ⟨wr.heap.size, 0, none⟩ 1 1 [.int .i64 fk, .int .i64 fn] (by rfl) (by rfl) (World.news_of_block (cs := #[.int .i64 fk, .int .i64 fn]) (t := 63) (fr := (0, 0)) (heap_alloc_new wr _)) (by simp [Value.oneCell']) (by omega) (by unfold maxLen; omega) (by omega) (by have := HR.out.1.size; simp; omega) (wr.heap.size + 1) (by simp) ?_; intro gg cap w3 hown1 hgrow hat hlt1)
        all_goals
          have hR := FRel.yes HR.out HSS.out HSEL.out hgrow hown1
          have HRR := Lib.hid hR
          clear hgrow hown1 hat hlt1 hR
          go_wp2
          go_roundw
          case rel => exact ⟨k + 1, by omega, by go_num, HRR.out⟩
          case measure => simp [intOf]; omega
    · have hge : (n : Int) ≤ k := by omega
      obtain rfl : k = n := by omega
      have hR := HR.out
      unfold FRel at hR
      rw [List.take_of_length_le (by rw [HN.out]; omega)] at hR
      have hmay : ∀ f ∈ fatesOf b1 true S, mayF f := by
        intro f hf
        unfold fatesOf at hf
        obtain ⟨s, hs1, rfl⟩ := List.mem_map.1 hf
        exact (HS.out s (List.mem_filter.1 hs1).1).2.2.2
      have hfl := fatesOf_len b1 true S
      rw [HN.out] at hfl
      have HRR := Lib.hid hR
      have HMAY := Lib.hid hmay
      clear hR hmay
      go_wp2_with fail
      refine (New_row _ w.heap.size _ (fatesOf b1 true S) HRR.out.2 HMAY.out (by omega)).mono ?_
      rintro r wa ⟨own, A, rfl, hN, hbl, ho⟩
      have hH : Holds w A (net0 2 (fatesOf b1 true S)) [] wa := ⟨own, hN, (Mv.of_below HRR.out.1).trans (Mv.of_below hbl), fun b hb => ho b (Nat.lt_of_lt_of_le hb HRR.out.1.size), fun b hb => by simp at hb⟩
      have hok := RunOk.start (fatesOf b1 true S) HMAY.out
      have HH := Lib.hid hH
      have HOK := Lib.hid hok
      clear hH hok hN hbl ho hfl
      go_wp2_with (first
        | (go_at_call 13; refine (num_any _ _).mono ?_; rintro r w' ⟨rfl, rfl⟩))
      go_loopw [13, 14] (fun t i wr => ∃ j : Nat, j ≤ k ∧ i = .int .i64 j ∧ t = .int .i64 (gaps (S.take j)) ∧ Holds w A (runS b1 true (net0 2 (fatesOf b1 true S)) (S.take j)) [] wr) (fun _ i _ => k - (intOf i).toNat)
      case atStart => exact ⟨0, Nat.zero_le _, rfl, rfl, HH.out⟩
      case round =>
        obtain ⟨j, hj, rfl, rfl, hrel⟩ := hrel
        have HQ := Lib.hid hrel
        clear hrel
        have hST : ∀ s ∈ S.take j, TameS s := fun s hs => HS.out s (List.mem_of_mem_take hs)
        have hrun := HOK.out.run hST b1 true
        have hlenj : (S.take j).length ≤ j := by rw [List.length_take]; omega
        rw [Nat.zero_add] at hrun
        have hnow := runS_now hST b1 true HOK.out
        obtain ⟨M, hM⟩ : ∃ M, M = runS b1 true (net0 2 (fatesOf b1 true S)) (S.take j) := ⟨_, rfl⟩
        rw [← hM] at hrun hnow
        have HM := Lib.hid hM
        have HRUN := Lib.hid hrun
        have HNOW := Lib.hid hnow
        clear hST hrun hM hnow
        by_cases hlt2 : j < k
        · obtain ⟨⟨gap, lane, data, fk, fn⟩, hs⟩ : ∃ s, S[j]? = some s := ⟨_, List.getElem?_eq_getElem (by rw [HN.out]; exact hlt2)⟩
          have hst := HS.out _ (List.mem_of_getElem? hs)
          have hlbw : lb < w.heap.size := by
            obtain ⟨a, cd, c0, _⟩ := HIN.out j _ hs
            exact World.block_lt_of_cell? _ _ c0
          obtain ⟨a, cd, c0, c1, c2, c3, c4, hrow⟩ := (HIN.out.still HQ.out.below) j _ hs
          have hlb : lb < wr.heap.size := World.block_lt_of_cell? _ _ c0
          obtain rfl : la = some ⟨lb, 0, none⟩ := HLA.out.resolve_left (by omega)
          have HSS := Lib.hid hs
          have hjj : (j : Int) < k := by omega
          have hj0 : (0 : Int) ≤ j := by omega
          have hq : Holds w A M [] wr := by rw [HM.out]; exact HQ.out
          simp only at c0 c1 c2 hrow
          have hgap : gap ≤ 20 := hst.1
          have hl2 : lane < 2 := hst.2.1
          have hdl : data.length ≤ 4096 := hst.2.2.1
          have hgb : gaps (S.take j) ≤ 600 := by
            have e1 := HNOW.out
            have e2 := HRUN.out.now
            have e3 : (net0 2 (fatesOf b1 true S)).now = 0 := rfl
            omega
          have hfine := HRUN.out.fine (by omega)
          have hrt := HRUN.out.ticks gap hgap
          have HFIT := Lib.hid (hrt.fit (by omega))
          have HNL := Lib.hid hrt.nl
          have HOPN := Lib.hid hrt.opn
          have hdd : (data.length : Int) ≤ (data.length : Int) + 200 := by omega
          have HQ2 := Lib.hid hq
          have HFINE := Lib.hid hfine
          have HROW0 := Lib.hid hrow
          clear hs hst c3 c4 hrow hq hfine hrt
          go_wp2_with fail
          refine (HQ2.out.pass HFINE.out gap (by omega)).mono ?_
          rintro r wp ⟨rfl, hP, hkp⟩
          have p0 : wp.cell? ⟨lb, j * 5, none⟩ = some (.int .i64 gap) := (World.cell?_of_block (w := wr) (a := ⟨lb, j * 5, none⟩) (hkp.2 lb (.inr hlbw))).trans c0
          have p1 : wp.cell? ⟨lb, j * 5 + 1, none⟩ = some (.int .i64 lane) := (World.cell?_of_block (w := wr) (a := ⟨lb, j * 5 + 1, none⟩) (hkp.2 lb (.inr hlbw))).trans c1
          have p2 : wp.cell? ⟨lb, j * 5 + 2, none⟩ = some (.slice a data.length cd) := (World.cell?_of_block (w := wr) (a := ⟨lb, j * 5 + 2, none⟩) (hkp.2 lb (.inr hlbw))).trans c2
          have hrow2 : RowIn wp a data.length data := by
            obtain ⟨a', cd', c0', c1', c2', c3', c4', hrow'⟩ := (HIN.out.still hP.below) j _ HSS.out
            simp only at c2' hrow'
            have : Value.slice a' data.length cd' = .slice a data.length cd := Option.some.inj (c2'.symm.trans p2)
            cases this
            exact hrow'
          have hlbp : lb < wp.heap.size := World.block_lt_of_cell? _ _ p0
          have HP := Lib.hid hP
          have HROW := Lib.hid hrow2
          clear hP hkp hrow2 c0 c1 c2
          by_cases hl : lane = 0
          · subst hl
            cases b1
            · have HSEL : Hid (sel false true ⟨gap, 0, data, fk, fn⟩ = false) := rfl
              go_wp2_with (first
                | (go_at_call 13; refine (num_any _ _).mono ?_; rintro r w' ⟨rfl, rfl⟩))
              go_wp2
              go_roundw
              case rel =>
                have hsnoc : S.take (j + 1) = S.take j ++ [⟨gap, 0, data, fk, fn⟩] := by
                  have := List.getElem?_eq_some_iff.1 HSS.out
                  rw [List.take_succ_eq_append_getElem this.1, this.2]
                refine ⟨j + 1, by omega, by go_num, by rw [hsnoc, gaps_append]; simp [gaps], ?_⟩
                rw [hsnoc, runS_append, ← HM.out]
                have e : runS false true M [⟨gap, 0, data, fk, fn⟩] = M.ticks gap := runS_one_no HSEL.out
                rw [e]
                exact HP.out
              case measure => simp [intOf]; omega
            · have HSEL : Hid (sel true true ⟨gap, 0, data, fk, fn⟩ = true) := rfl
              have p1' : wp.cell? ⟨lb, j * 5 + 1, none⟩ = some (.int .i64 0) := p1
              clear p1
              have p1 := p1'
              clear p1'
              go_wp2_with (first
                | (go_at_call 13; refine (num_any _ _).mono ?_; rintro r w' ⟨rfl, rfl⟩))
              go_wp2_with fail
              have hsnoc : S.take (j + 1) = S.take j ++ [⟨gap, 0, data, fk, fn⟩] := by
                have := List.getElem?_eq_some_iff.1 HSS.out
                rw [List.take_succ_eq_append_getElem this.1, this.2]
              have HSN := Lib.hid hsnoc
              clear hsnoc
              go_region_held3 (fun w' => w'.cell? ⟨lb, j * 5 + 1, none⟩ = some (.int .i64 0) ∧ w'.cell? ⟨lb, j * 5 + 2, none⟩ = some (.slice a data.length cd))
                (go_keep)
                (first
                  | (go_at_call 24; refine ((HP.out.still ((Mv.refl _ _).drew)).lent (RowIn.of_heap HROW.out rfl) (by omega)).mono ?_; rintro e w' ⟨g1, rfl, hr1, hHb, hkb⟩; have k1 : w'.cell? ⟨lb, j * 5 + 1, none⟩ = some (.int .i64 0) := (World.cell?_of_block (w := wp) (a := ⟨lb, j * 5 + 1, none⟩) (hkb.2 lb (.inr hlbw))).trans p1; have k2 : w'.cell? ⟨lb, j * 5 + 2, none⟩ = some (.slice a data.length cd) := (World.cell?_of_block (w := wp) (a := ⟨lb, j * 5 + 2, none⟩) (hkb.2 lb (.inr hlbw))).trans p2; have HHb := Lib.hid hHb; have HR1 := Lib.hid hr1; clear hHb hr1 hkb)
                  | (go_at_call 18; refine (HHb.out.send HFIT.out 0 (by rw [HNL.out]; omega) (HOPN.out 0) ⟨g1, 0, none⟩ data.length (data.length + 200) data (by omega) (by omega) HR1.out (.inl (by simp))).mono ?_; rintro e w'' ⟨rfl, hHc, hkc⟩; have q1 : w''.cell? ⟨lb, j * 5 + 1, none⟩ = some (.int .i64 0) := (World.cell?_of_block (w := w') (a := ⟨lb, j * 5 + 1, none⟩) (hkc.2 lb (.inr hlbw))).trans k1; have q2 : w''.cell? ⟨lb, j * 5 + 2, none⟩ = some (.slice a data.length cd) := (World.cell?_of_block (w := w') (a := ⟨lb, j * 5 + 2, none⟩) (hkc.2 lb (.inr hlbw))).trans k2; have HHc := Lib.hid hHc; clear hHc hkc))
              go_wp2_with (first
                | (go_at_call 13; refine (num_any _ _).mono ?_; rintro r w' ⟨rfl, rfl⟩))
              go_roundw
              case rel =>
                refine ⟨j + 1, by omega, by go_num, by rw [HSN.out, gaps_append]; simp [gaps], ?_⟩
                rw [HSN.out, runS_append, ← HM.out]
                have e : runS true true M [⟨gap, 0, data, fk, fn⟩] = (M.ticks gap).send 0 data := runS_one_yes HSEL.out
                rw [e]
                exact HHc.out.sub (by simp)
              case measure => simp [intOf]; omega
          · obtain rfl : lane = 1 := by omega
            have HSEL : Hid (sel b1 true ⟨gap, 1, data, fk, fn⟩ = true) := by cases b1 <;> rfl
            have p1' : wp.cell? ⟨lb, j * 5 + 1, none⟩ = some (.int .i64 1) := p1
            clear p1
            have p1 := p1'
            clear p1'
            go_wp2_with (first
              | (go_at_call 13; refine (num_any _ _).mono ?_; rintro r w' ⟨rfl, rfl⟩))
            go_wp2_with fail
            have hsnoc : S.take (j + 1) = S.take j ++ [⟨gap, 1, data, fk, fn⟩] := by
              have := List.getElem?_eq_some_iff.1 HSS.out
              rw [List.take_succ_eq_append_getElem this.1, this.2]
            have HSN := Lib.hid hsnoc
            clear hsnoc
            go_region_held3 (fun w' => w'.cell? ⟨lb, j * 5 + 1, none⟩ = some (.int .i64 1) ∧ w'.cell? ⟨lb, j * 5 + 2, none⟩ = some (.slice a data.length cd))
              (go_keep)
              (first
                | (go_at_call 24; refine ((HP.out.still ((Mv.refl _ _).drew)).lent (RowIn.of_heap HROW.out rfl) (by omega)).mono ?_; rintro e w' ⟨g1, rfl, hr1, hHb, hkb⟩; have k1 : w'.cell? ⟨lb, j * 5 + 1, none⟩ = some (.int .i64 1) := (World.cell?_of_block (w := wp) (a := ⟨lb, j * 5 + 1, none⟩) (hkb.2 lb (.inr hlbw))).trans p1; have k2 : w'.cell? ⟨lb, j * 5 + 2, none⟩ = some (.slice a data.length cd) := (World.cell?_of_block (w := wp) (a := ⟨lb, j * 5 + 2, none⟩) (hkb.2 lb (.inr hlbw))).trans p2; have HHb := Lib.hid hHb; have HR1 := Lib.hid hr1; clear hHb hr1 hkb)
                | (go_at_call 18; refine (HHb.out.send HFIT.out 1 (by rw [HNL.out]; omega) (HOPN.out 1) ⟨g1, 0, none⟩ data.length (data.length + 200) data (by omega) (by omega) HR1.out (.inl (by simp))).mono ?_; rintro e w'' ⟨rfl, hHc, hkc⟩; have q1 : w''.cell? ⟨lb, j * 5 + 1, none⟩ = some (.int .i64 1) := (World.cell?_of_block (w := w') (a := ⟨lb, j * 5 + 1, none⟩) (hkc.2 lb (.inr hlbw))).trans k1; have q2 : w''.cell? ⟨lb, j * 5 + 2, none⟩ = some (.slice a data.length cd) := (World.cell?_of_block (w := w') (a := ⟨lb, j * 5 + 2, none⟩) (hkc.2 lb (.inr hlbw))).trans k2; have HHc := Lib.hid hHc; clear hHc hkc))
            go_wp2_with (first
              | (go_at_call 13; refine (num_any _ _).mono ?_; rintro r w' ⟨rfl, rfl⟩))
            go_roundw
            case rel =>
              refine ⟨j + 1, by omega, by go_num, by rw [HSN.out, gaps_append]; simp [gaps], ?_⟩
              rw [HSN.out, runS_append, ← HM.out]
              have e : runS b1 true M [⟨gap, 1, data, fk, fn⟩] = (M.ticks gap).send 1 data := runS_one_yes HSEL.out
              rw [e]
              exact HHc.out.sub (by simp)
            case measure => simp [intOf]; omega
        · have hjj : (k : Int) ≤ j := by omega
          obtain rfl : j = k := by omega
          have etk : S.take j = S := List.take_of_length_le (by rw [HN.out]; omega)
          have hq := HQ.out
          have hn2' := HNOW.out
          rw [HM.out] at hn2'
          have hq3 : ∀ W, Holds w A (runS b1 true (net0 2 (fatesOf b1 true S)) (S.take j)) [] W → Calls Try.prog 16 #[.pointer (some ⟨A.net, 0, none⟩)] W fun r w' => r = .returned (.int .i64 (gaps (S.take j))) ∧ W = w' := fun W hW => by
            have := hW.now
            rw [hn2', show (net0 2 (fatesOf b1 true S)).now = 0 from rfl, Nat.zero_add] at this
            exact this
          have HQ3 := Lib.hid hq3
          have ETK := Lib.hid etk
          clear hq hn2' hq3 etk
          go_wp2_with (go_at_call 16; refine (HQ3.out _ HQ.out).mono ?_; rintro r w' ⟨rfl, rfl⟩)
          go_ret3
          refine ⟨A, ?_, ?_⟩
          · rw [ETK.out]; rfl
          · have := HQ.out
            rw [ETK.out] at this
            exact this
end Go.Proofs.Ytadalodjnbnjkaa

/- fates: the layer's, and the document's. -/
namespace Go.Proofs.Ytadalodjnbnjkaa
open Go.RowKit Go.Conc

/-- Fates that came in: two cells each. -/
def FateRow (w : World) (a : Option Addr) (n : Nat) (F : List (Int × Int)) : Prop :=
  F.length = n ∧ (n = 0 ∨ ∃ b off, a = some ⟨b, off, none⟩ ∧ ∀ j, j < n → w.cell? ⟨b, off + j * 2, none⟩ = some (.int .i64 (F.getD j (0, 0)).1) ∧ w.cell? ⟨b, off + j * 2 + 1, none⟩ = some (.int .i64 (F.getD j (0, 0)).2))
theorem FateRow.still {w w' : World} {a : Option Addr} {n : Nat} {F : List (Int × Int)} (h : FateRow w a n F) (hb : Below w.heap.size w w') : FateRow w' a n F := by
  refine ⟨h.1, h.2.imp id ?_⟩
  rintro ⟨b, off, h1, h2⟩
  refine ⟨b, off, h1, fun j hj => ?_⟩
  obtain ⟨q1, q2⟩ := h2 j hj
  have hl := World.block_lt_of_cell? w _ q1
  have e : ∀ j, w'.cell? ⟨b, j, none⟩ = w.cell? ⟨b, j, none⟩ := fun j => hb.cell (p := ⟨b, j, none⟩) hl
  exact ⟨(e _).trans q1, (e _).trans q2⟩
theorem Try.info96 : (Try.prog.info? 96).map (fun i => (i.zero, i.size, i.bytes)) = some (some (.agg #[.int .i64 0, .int .i64 0]), 2, 16) := by kernel_rfl

/-- The two lists that fates gathers. -/
def FtRel (w : World) (F : List (Int × Int)) (k m : Nat) (fv gv : Value) (wr : World) : Prop :=
  Below w.heap.size w wr ∧ wr.ownsRow w.heap.size 63 2 fv k (fateCells (F.take k)) ∧ wr.ownsRow w.heap.size 96 2 gv m (fateCells (F.take m)) ∧ ∀ b, fv.ownBlock = some b → gv.ownBlock ≠ some b
theorem fateCells_take {F : List (Int × Int)} {k : Nat} (hk : k < F.length) : fateCells (F.take (k + 1)) = fateCells (F.take k) ++ [.int .i64 (F.getD k (0, 0)).1, .int .i64 (F.getD k (0, 0)).2] := by
  rw [List.take_succ_eq_append_getElem hk, fateCells_snoc, List.getD_eq_getElem?_getD, List.getElem?_eq_getElem hk]
  rfl
theorem FtRel.first {w wr wr' : World} {F : List (Int × Int)} {k m gg cap : Nat} {fv gv : Value} {o : Obj} (h : FtRel w F k m fv gv wr) (hk : k < F.length)
    (hgrow : ((wr.alloc o).drew).grownBy wr' fv.ownBlock) (hat : fv.ownBlock = some gg ∨ gg = wr.heap.size + 1)
    (hown : wr'.ownsRow w.heap.size 63 2 (.slice (some ⟨gg, 0, none⟩) (k + 1) cap) (k + 1) (fateCells (F.take k) ++ [.int .i64 (F.getD k (0, 0)).1, .int .i64 (F.getD k (0, 0)).2])) : FtRel w F (k + 1) m (.slice (some ⟨gg, 0, none⟩) (k + 1) cap) gv wr' := by
  obtain ⟨h1, h2, h3, h4⟩ := h
  have hs := h1.size
  refine ⟨((h1.alloc (by omega) o).drew).grown hgrow (by simp [World.drew]; omega) (fun b hb => (h2.lt b hb).1), by rw [fateCells_take hk]; exact hown, ?_, fun b hb => ?_⟩
  · refine ownsRow_keep h3 fun b hb => ?_
    have hl : b < wr.heap.size := (h3.lt b hb).2
    refine (hgrow.block b (by simp [World.drew]; omega) (fun e => h4 b e.symm hb)).trans ?_
    exact Below.heap_alloc wr o b hl
  · intro hg
    have : b = gg := by simpa [Value.ownBlock] using hb.symm
    subst this
    rcases hat with hat | hat
    · exact h4 b hat hg
    · have := (h3.lt b hg).2; omega
theorem FtRel.second {w wr wr' : World} {F : List (Int × Int)} {k m gg cap : Nat} {fv gv : Value} {o : Obj} (h : FtRel w F k m fv gv wr) (hk : m < F.length)
    (hgrow : ((wr.alloc o).drew).grownBy wr' gv.ownBlock) (hat : gv.ownBlock = some gg ∨ gg = wr.heap.size + 1)
    (hown : wr'.ownsRow w.heap.size 96 2 (.slice (some ⟨gg, 0, none⟩) (m + 1) cap) (m + 1) (fateCells (F.take m) ++ [.int .i64 (F.getD m (0, 0)).1, .int .i64 (F.getD m (0, 0)).2])) : FtRel w F k (m + 1) fv (.slice (some ⟨gg, 0, none⟩) (m + 1) cap) wr' := by
  obtain ⟨h1, h2, h3, h4⟩ := h
  have hs := h1.size
  refine ⟨((h1.alloc (by omega) o).drew).grown hgrow (by simp [World.drew]; omega) (fun b hb => (h3.lt b hb).1), ?_, by rw [fateCells_take hk]; exact hown, fun b hb => ?_⟩
  · refine ownsRow_keep h2 fun b hb => ?_
    have hl : b < wr.heap.size := (h2.lt b hb).2
    refine (hgrow.block b (by simp [World.drew]; omega) (fun e => h4 b hb e.symm)).trans ?_
    exact Below.heap_alloc wr o b hl
  · intro hg
    have : gg = b := by simpa [Value.ownBlock] using hg
    subst this
    rcases hat with hat | hat
    · exact h4 gg hb hat
    · have := (h2.lt gg hb).2; omega

/-- What fates leaves. -/
def Fated2 (w : World) (F : List (Int × Int)) (e : Ending) (w' : World) : Prop :=
  ∃ fv gv, e = .returned (.tuple #[fv, gv]) ∧ FtRel w F F.length F.length fv gv w'

set_option maxRecDepth 100000 in
set_option maxHeartbeats 3200000 in
theorem fates_any (w : World) (a : Option Addr) (n c : Nat) (F : List (Int × Int)) (h : FateRow w a n F) (hn : n * 16 ≤ 140737488351232) : Calls Try.prog 31 #[.slice a n c] w (Fated2 w F) := by
  obtain ⟨i0, hi0, hz0, hz1, hz2⟩ := info_parts Try.info63
  obtain ⟨i1, hi1, hy0, hy1, hy2⟩ := info_parts Try.info96
  have HF := Lib.hid h
  clear h
  go_enter Try.func31, Try.ntmps31
  go_wp2_with fail
  go_loopw [4, 5, 6] (fun fv gv i wr => ∃ k : Nat, k ≤ n ∧ i = .int .i64 k ∧ FtRel w F k k fv gv wr) (fun _ _ i _ => n - (intOf i).toNat)
  case atStart => exact ⟨0, Nat.zero_le _, rfl, Below.refl _ _, World.ownsRow_nil _ _ _ _, World.ownsRow_nil _ _ _ _, fun b hb => by simp [Value.ownBlock] at hb⟩
  case round =>
    obtain ⟨k, hk, rfl, hrel⟩ := hrel
    have HR := Lib.hid hrel
    have hb := hrel.1
    have hsz := hb.size
    clear hrel
    by_cases hlt : k < n
    · have hkk : (k : Int) < n := by omega
      have hk0 : (0 : Int) ≤ k := by omega
      obtain ⟨b, off, rfl, hc⟩ := HF.out.2.resolve_left (by omega)
      obtain ⟨q1, q2⟩ := hc k hlt
      have hbl : b < w.heap.size := World.block_lt_of_cell? _ _ q1
      have HBL : Hid (b < w.heap.size) := hbl
      have e : ∀ j, wr.cell? ⟨b, j, none⟩ = w.cell? ⟨b, j, none⟩ := fun j => hb.cell (p := ⟨b, j, none⟩) hbl
      have c0 := (e _).trans q1
      have c1 := (e _).trans q2
      have hne : b ≠ wr.heap.size := by omega
      have hFl : k < F.length := by rw [HF.out.1]; exact hlt
      have HFL : Hid (k < F.length) := hFl
      obtain ⟨x, hx⟩ : ∃ x, x = (F.getD k (0, 0)).1 := ⟨_, rfl⟩
      obtain ⟨y, hy⟩ : ∃ y, y = (F.getD k (0, 0)).2 := ⟨_, rfl⟩
      rw [← hx] at c0
      rw [← hy] at c1
      have HX := Lib.hid hx
      have HY := Lib.hid hy
      have HC := Lib.hid hc
      clear e q1 q2 hc hx hy hb hFl
      go_wp2_with fail
      go_region_law (refine step_append_lies _ (by rfl) _ _ _ (by rfl) w.heap.size 63 i0 _ 2 16 Try.underlying64 hi0 hz0 hz1 hz2 rfl (by omega) u4 k (fateCells (F.take k)) (by rfl) ((HR.out.2.1.alloc _).drew) ⟨wr.heap.size, 0, none⟩ 1 1 [.int .i64 x, .int .i64 y] (by rfl) (by rfl) (World.news_of_block (cs := #[.int .i64 x, .int .i64 y]) (t := 63) (fr := (0, 0)) (heap_alloc_new wr _)) (by simp [Value.oneCell']) (by omega) (by unfold maxLen; omega) (by omega) (by simp; omega) (wr.heap.size + 1) (by simp) ?_; intro gg cap w3 hown1 hgrow hat hlt1)
      all_goals
        have hR := FtRel.first HR.out HFL.out hgrow hat (by rw [← HX.out, ← HY.out]; exact hown1)
        have hb3 := hR.1
        have hsz3 := hb3.size
        obtain ⟨p1, p2⟩ := HC.out k hlt
        have e3 : ∀ j, w3.cell? ⟨b, j, none⟩ = w.cell? ⟨b, j, none⟩ := fun j => hb3.cell (p := ⟨b, j, none⟩) HBL.out
        have d0 := (e3 _).trans p1
        have d1 := (e3 _).trans p2
        rw [← HX.out] at d0
        rw [← HY.out] at d1
        have hne3 : b ≠ w3.heap.size := by have := HBL.out; omega
        have HR3 := Lib.hid hR
        clear hown1 hgrow hat hlt1 hR hb3 p1 p2 e3 c0 c1
        go_wp2_with fail
        go_region_law (refine step_append_lies _ (by rfl) _ _ _ (by rfl) w.heap.size 96 i1 _ 2 16 Try.underlying91 hi1 hy0 hy1 hy2 rfl (by omega) u5 k (fateCells (F.take k)) (by rfl) ((HR3.out.2.2.1.alloc _).drew) ⟨w3.heap.size, 0, none⟩ 1 1 [.int .i64 x, .int .i64 y] (by rfl) (by rfl) (World.news_of_block (cs := #[.int .i64 x, .int .i64 y]) (t := 96) (fr := (0, 0)) (heap_alloc_new w3 _)) (by simp [Value.oneCell']) (by omega) (by unfold maxLen; omega) (by omega) (by simp; omega) (w3.heap.size + 1) (by simp) ?_; intro gg2 cap2 w4 hown2 hgrow2 hat2 hlt2)
        all_goals
          have hR := FtRel.second HR3.out HFL.out hgrow2 hat2 (by rw [← HX.out, ← HY.out]; exact hown2)
          have HR4 := Lib.hid hR
          clear hown2 hgrow2 hat2 hlt2 hR
          go_wp2
          go_roundw
          case rel => exact ⟨k + 1, by omega, by go_num, HR4.out⟩
          case measure => simp [intOf]; omega
    · have hge : (n : Int) ≤ k := by omega
      obtain rfl : k = n := by omega
      go_wp2
      go_ret2
      have hR := HR.out
      have e : k = F.length := HF.out.1.symm
      rw [e] at hR
      exact ⟨_, _, rfl, hR⟩
end Go.Proofs.Ytadalodjnbnjkaa
