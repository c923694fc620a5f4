/- Pass and Close. -/
import Derived.Test.YtadalodjnbnjkaaPlay05
namespace Go.Proofs.Ytadalodjnbnjkaa
open Go.RowKit Go.Conc

def Nt.ticks (N : Nt) : Nat → Nt
  | 0 => N
  | k + 1 => (N.ticks k).tick
theorem ticks_ok {N : Nt} (h : Okn N) : ∀ k, Okn (N.ticks k)
  | 0 => h
  | k + 1 => (ticks_ok h k).tick
theorem ticks_now (N : Nt) : ∀ k, (N.ticks k).now = N.now + k
  | 0 => rfl
  | k + 1 => by show (N.ticks k).now + 1 = _; rw [ticks_now N k]; omega
theorem ticks_nl (N : Nt) : ∀ k, (N.ticks k).nl = N.nl
  | 0 => rfl
  | k + 1 => by show (N.ticks k).nl = _; exact ticks_nl N k
theorem ticks_mem (N : Nt) : ∀ k, ∀ x ∈ (N.ticks k).later, x ∈ N.later
  | 0 => fun _ h => h
  | k + 1 => fun x h => ticks_mem N k x (ticked_mem (N.ticks k) _ (Nat.le_refl _) x h)
theorem ticks_len (N : Nt) : ∀ k, (N.ticks k).later.length ≤ N.later.length
  | 0 => Nat.le_refl _
  | k + 1 => Nat.le_trans (ticked_len (N.ticks k) _ (Nat.le_refl _)) (ticks_len N k)
theorem ticks_add (N : Nt) (a : Nat) : ∀ b, N.ticks (a + b) = (N.ticks a).ticks b
  | 0 => rfl
  | b + 1 => by show (N.ticks (a + b)).tick = _; rw [ticks_add N a b]; rfl

/-- What is asked of a net whose time goes on. -/
structure Fine (N : Nt) : Prop where
  ok : Okn N
  now : N.now < 549755813888
  later : N.later.length < 549755813888
  due : ∀ x ∈ N.later, x.due < 4398046511104

theorem ticks_tick_any (w : World) (own : Own) (A : Ga) (N : Nt) (k : Nat) (h : NetIs w own A (N.ticks k)) (hf : Fine N) (hk : k ≤ 65536) :
    Calls Try.prog 48 #[.pointer (some ⟨A.net, 0, none⟩)] w (Leaves w own A (N.ticks (k + 1)) (.returned (.tuple #[]))) :=
  tick_any w own A (N.ticks k) h (ticks_ok hf.ok k) (by rw [ticks_now]; have := hf.now; omega) (by have := ticks_len N k; have := hf.later; omega) (fun x hx => hf.due x (ticks_mem N k x hx))

/-- The state of a loop of ticks. -/
def TicksRel (w : World) (own : Own) (A : Ga) (N : Nt) (k : Nat) (wr : World) : Prop := ∃ own', NetIs wr own' A (N.ticks k) ∧ Mv own.has w wr ∧ Grows w.heap.size own own'

set_option maxHeartbeats 800000 in
theorem Pass_ok (w : World) (own : Own) (A : Ga) (N : Nt) (t : Nat) (h : NetIs w own A N) (hf : Fine N) (ht : t ≤ 65536) :
    Calls Try.prog 39 #[.pointer (some ⟨A.net, 0, none⟩), .int .i64 t] w (Leaves w own A (N.ticks t) (.returned (.int .i64 0))) := by
  have R0 : TicksRel w own A N 0 w := ⟨own, h, Mv.refl _ _, Grows.refl _ _⟩
  have HF := Lib.hid hf
  have d1 : decide ((t : Int) < 0) = false := by simp
  have d2 : decide ((t : Int) > 65536) = false := by simp; omega
  have d3 : (0 : Int) ≤ t := by omega
  have d4 : (t : Int) ≤ 65536 := by omega
  clear h hf
  go_enter Try.func39, Try.ntmps39
  go_wp2_with fail
  go_loopw [12] (fun i wr => ∃ k : Nat, k ≤ t ∧ i = .int .i64 k ∧ TicksRel w own A N k wr) (fun i _ => t - (intOf i).toNat)
  case atStart => exact ⟨0, Nat.zero_le _, rfl, R0⟩
  case round =>
    obtain ⟨k, hk, rfl, hrel⟩ := hrel
    have HR := Lib.hid hrel
    clear R0 hrel
    by_cases hlt : k < t
    · have hlt' : (k : Int) < t := by omega
      obtain ⟨own1, hN, hm, hg⟩ := HR.out
      have HG := Lib.hid hg
      have HM := Lib.hid hm
      go_wp2_with (go_at_call 48; refine (ticks_tick_any _ own1 A N k hN HF.out (by omega)).mono ?_; rintro e w' ⟨rfl, hL⟩)
      obtain ⟨own2, hN2, hm2, hg2⟩ := hL
      go_roundw
      case rel => exact ⟨k + 1, by omega, by go_num, own2, hN2, HM.out.trans' hm2 (fun b hb hh ho => hh (HG.out b hb ho)), HG.out.trans hg2 HM.out.size⟩
      case measure => simp [intOf]; omega
    · have hge : (t : Int) ≤ (k : Int) := by omega
      go_wp2
      go_ret
      obtain rfl : k = t := by omega
      exact ⟨rfl, HR.out⟩

theorem Pass_bad (w : World) (p : Nat) (x : Int) (hx : x < 0 ∨ 65536 < x) :
    Calls Try.prog 39 #[.pointer (some ⟨p, 0, none⟩), .int .i64 x] w fun e w' => e = .returned (.int .i64 1) ∧ w = w' := by
  by_cases h : x < 0
  · have d1 : decide (x < 0) = true := by simpa using h
    clear hx
    go_enter Try.func39, Try.ntmps39
    go_wp2
    go_ret
    exact ⟨rfl, rfl⟩
  · have d1 : decide (x < 0) = false := by simpa using h
    have d2 : decide (x > 65536) = true := by simp; omega
    have d3 : 65536 < x := by omega
    clear hx
    go_enter Try.func39, Try.ntmps39
    go_wp2
    go_ret
    exact ⟨rfl, rfl⟩

def Nt.closed (N : Nt) (i : Nat) : Nt := { N with lane := setL N.lane i { N.lane i with closed := true } }

/-- The lane's queue is closed, its channel as it was. -/
theorem LaneIs.close {w : World} {own : Own} {A : Ga} {i : Nat} {L : Lq} {sh : Bool} (h : LaneIs w own A i L sh) :
    LaneIs (w.setCell ⟨A.q i, 1, none⟩ (.bool true)) own A i { L with closed := true } sh := by
  obtain ⟨h1, h2, h3, vs, s, r, h4, h5⟩ := h
  have hqc : A.c i ≠ A.q i := fun e => by rw [← e, h4] at h3; cases h3
  refine ⟨h1, h2, ?_, vs, s, r, by rw [heap_setCell_other hqc]; exact h4, h5.keep fun b k hb => ⟨hb, heap_setCell_other (fun e => by subst e; rw [h1] at hb; cases hb) _⟩⟩
  rw [heap_setCell_same h3]
  simp

/-- Lane i has turned, and nothing else. -/
theorem NetIs.lane {w w' : World} {own : Own} {A : Ga} {N : Nt} {i : Nat} {L : Lq} (h : NetIs w own A N) (hi : i < N.nl) (hmv : Mv (fun b => b = A.c i ∨ b = A.q i) w w')
    (hL : LaneIs w' own A i L L.shut) : NetIs w' own A { N with lane := setL N.lane i L } := by
  obtain ⟨h0, cap, fv, lv, h1, h2, h3, h4, h5⟩ := h
  have hc := (h5 i hi).2.1
  have hq := (h5 i hi).1
  have key : ∀ b t, own b = some t → t ≠ .c i → t ≠ .q i → own b = some t ∧ w'.heap[b]? = w.heap[b]? := fun b t hb ht hu =>
    ⟨hb, hmv.block b (h0 b t hb) (fun e => by
      rcases e with rfl | rfl
      · rw [hc] at hb; exact ht (by cases hb; rfl)
      · rw [hq] at hb; exact hu (by cases hb; rfl))⟩
  refine ⟨h0.mono hmv.size, cap, fv, lv, ⟨h1.1, (key _ _ h1.1 (by simp) (by simp)).2.trans h1.2⟩, h2.keep (fun ho => key _ _ ho (by simp) (by simp)), h3.keep (fun b hb => key _ _ hb (by simp) (by simp)),
    h4.keep (fun b hb => ⟨rfl, ?_⟩), fun j hj => ?_⟩
  · rcases hb with hb | hb <;> exact (key _ _ hb (by simp) (by simp)).2
  · by_cases hji : j = i
    · subst hji
      simpa [setL_same] using hL
    · simp only [setL_other _ _ hji]
      refine (h5 j hj).keep fun b t hb ht => key b t hb ?_ ?_
      all_goals (rcases ht with rfl | rfl | ⟨k, rfl⟩ <;> simp [hji])

set_option maxHeartbeats 800000 in
theorem Close_ok (w : World) (own : Own) (A : Ga) (N : Nt) (i : Nat) (h : NetIs w own A N) (hi : i < N.nl) (hop : (N.lane i).closed = false) :
    Calls Try.prog 25 #[.pointer (some ⟨A.net, 0, none⟩), .int .i64 i] w (Leaves w own A (N.closed i) (.returned (.int .i64 0))) := by
  have H := Lib.hid h
  obtain ⟨h0, capl, fv, lv, h1, h2, h3, h4, h5⟩ := h
  have g0 : w.cell? ⟨A.net, 0, none⟩ = some (.slice (some ⟨A.arr, 0, none⟩) N.nl capl) := cell_of_heap h1.2 0 rfl
  have g1 := h2.cell hi
  have hL := h5 i hi
  have gq : w.cell? ⟨A.q i, 1, none⟩ = some (.bool false) := by rw [← hop]; exact cell_of_heap hL.2.2.1 1 rfl
  have gf := free_of_heap hL.2.2.1 1
  have hii : (i : Int) < N.nl := by omega
  have hsh : (N.lane i).shut = false := by simp [Lq.shut, hop]
  rw [hsh] at hL
  have HL := Lib.hid hL
  clear h0 h1 h2 h3 h4 h5 hop hsh hL
  go_enter Try.func25, Try.ntmps25
  go_wp2_with (first
    | (go_at_call 33; refine (has_yes _ A.net N.nl capl _ _ g0 (by omega) (by omega)).mono ?_; rintro e w' ⟨rfl, rfl⟩)
    | (go_at_call 40; refine (endL _ own A i _ HL.out.close).mono ?_; rintro e w' ⟨rfl, hmv, hL'⟩))
  go_ret
  have hm : Mv (fun b => b = A.c i ∨ b = A.q i) w w' := ((Mv.refl _ _).setCell (.inl (.inr rfl)) _).trans' hmv (fun _ _ h => .inl h)
  refine ⟨rfl, own, H.out.lane hi hm hL', hm.mono fun b _ hb => ?_, Grows.refl _ _⟩
  unfold Own.has
  rcases hb with rfl | rfl
  · rw [HL.out.2.1]; simp
  · rw [HL.out.1]; simp

theorem Close_noLane (w : World) (own : Own) (A : Ga) (N : Nt) (x : Int) (h : NetIs w own A N) (hi : x < 0 ∨ N.nl ≤ x) :
    Calls Try.prog 25 #[.pointer (some ⟨A.net, 0, none⟩), .int .i64 x] w fun e w' => e = .returned (.int .i64 192) ∧ w = w' := by
  obtain ⟨h0, capl, fv, lv, h1, h2, h3, h4, h5⟩ := h
  have g0 : w.cell? ⟨A.net, 0, none⟩ = some (.slice (some ⟨A.arr, 0, none⟩) N.nl capl) := cell_of_heap h1.2 0 rfl
  have HI := Lib.hid hi
  clear h0 h1 h2 h3 h4 h5 hi
  go_enter Try.func25, Try.ntmps25
  go_wp2_with (go_at_call 33; refine (has_no _ A.net N.nl capl _ _ g0 HI.out).mono ?_; rintro e w' ⟨rfl, rfl⟩)
  go_ret
  exact ⟨rfl, rfl⟩

theorem Close_closed (w : World) (own : Own) (A : Ga) (N : Nt) (i : Nat) (h : NetIs w own A N) (hi : i < N.nl) (hop : (N.lane i).closed = true) :
    Calls Try.prog 25 #[.pointer (some ⟨A.net, 0, none⟩), .int .i64 i] w fun e w' => e = .returned (.int .i64 191) ∧ w = w' := by
  obtain ⟨h0, capl, fv, lv, h1, h2, h3, h4, h5⟩ := h
  have g0 : w.cell? ⟨A.net, 0, none⟩ = some (.slice (some ⟨A.arr, 0, none⟩) N.nl capl) := cell_of_heap h1.2 0 rfl
  have g1 := h2.cell hi
  have gq : w.cell? ⟨A.q i, 1, none⟩ = some (.bool true) := by rw [← hop]; exact cell_of_heap (h5 i hi).2.2.1 1 rfl
  have hii : (i : Int) < N.nl := by omega
  clear h0 h1 h2 h3 h4 h5 hop
  go_enter Try.func25, Try.ntmps25
  go_wp2_with (go_at_call 33; refine (has_yes _ A.net N.nl capl _ _ g0 (by omega) (by omega)).mono ?_; rintro e w' ⟨rfl, rfl⟩)
  go_ret
  exact ⟨rfl, rfl⟩
end Go.Proofs.Ytadalodjnbnjkaa

/- What wait answers, as plain data; a message that is taken. -/
namespace Go.Proofs.Ytadalodjnbnjkaa
open Go.RowKit Go.Conc

/-! ### plain -/
def hasMsg (L : Lq) : Bool := !L.buf.isEmpty
def overB (L : Lq) : Bool := L.shut && L.buf.isEmpty
def fstO (N : Nt) (ls : List Nat) : Option Nat := ls.find? fun l => hasMsg (N.lane l)
def fstI (N : Nt) (ls : List Nat) : Int := match fstO N ls with | some l => (l : Int) | none => -1
def allB (N : Nt) (ls : List Nat) : Bool := ls.all fun l => overB (N.lane l)
def Lq.pop (L : Lq) : Lq := { L with buf := L.buf.tail }
def Nt.popped (N : Nt) (i : Nat) : Nt := { N with lane := setL N.lane i (N.lane i).pop }
/-- The lane, the message, the error; the net behind it. -/
structure Wr where
  lane : Int
  msg : Option (List Int)
  err : Int
  net : Nt
def Nt.waitGo (ls : List Nat) : Nat → Nt → Wr
  | r, N => match fstO N ls with
    | some l => ⟨l, (N.lane l).buf.head?, 0, N.popped l⟩
    | none => if allB N ls then ⟨0, none, 191, N⟩ else match r with
      | 0 => ⟨0, none, 190, N⟩
      | r + 1 => Nt.waitGo ls r N.tick
theorem waitGo_some {N : Nt} {ls : List Nat} {l : Nat} (h : fstO N ls = some l) (r : Nat) : Nt.waitGo ls r N = ⟨l, (N.lane l).buf.head?, 0, N.popped l⟩ := by
  unfold Nt.waitGo; rw [h]
theorem waitGo_over {N : Nt} {ls : List Nat} (h : fstO N ls = none) (ha : allB N ls = true) (r : Nat) : Nt.waitGo ls r N = ⟨0, none, 191, N⟩ := by
  unfold Nt.waitGo; rw [h]; simp [ha]
theorem waitGo_zero {N : Nt} {ls : List Nat} (h : fstO N ls = none) (ha : allB N ls = false) : Nt.waitGo ls 0 N = ⟨0, none, 190, N⟩ := by
  unfold Nt.waitGo; rw [h]; simp [ha]
theorem waitGo_succ {N : Nt} {ls : List Nat} (h : fstO N ls = none) (ha : allB N ls = false) (r : Nat) : Nt.waitGo ls (r + 1) N = Nt.waitGo ls r N.tick := by
  rw [Nt.waitGo.eq_def ls (r + 1) N]; simp only [h, ha, Bool.false_eq_true, if_false]

theorem fstI_none {N : Nt} {ls : List Nat} (h : fstO N ls = none) : fstI N ls = -1 := by unfold fstI; rw [h]
theorem fstI_some {N : Nt} {ls : List Nat} {l : Nat} (h : fstO N ls = some l) : fstI N ls = l := by unfold fstI; rw [h]
theorem fstO_has {N : Nt} {ls : List Nat} {l : Nat} (h : fstO N ls = some l) : hasMsg (N.lane l) = true := by
  have := List.find?_some h; simpa using this
theorem fstO_mem {N : Nt} {ls : List Nat} {l : Nat} (h : fstO N ls = some l) : l ∈ ls := List.mem_of_find?_eq_some h
theorem fstI_nil (N : Nt) : fstI N [] = -1 := rfl
theorem allB_nil (N : Nt) : allB N [] = true := rfl
theorem fstI_range (N : Nt) (ls : List Nat) (M : Nat) (h : ∀ l ∈ ls, l < M) : -1 ≤ fstI N ls ∧ fstI N ls < M := by
  cases hf : fstO N ls with
  | none => rw [fstI_none hf]; omega
  | some l => rw [fstI_some hf]; have := h l (fstO_mem hf); omega
theorem fstI_snoc_old (N : Nt) (ls : List Nat) (l : Nat) (h : 0 ≤ fstI N ls) : fstI N (ls ++ [l]) = fstI N ls := by
  cases hf : fstO N ls with
  | none => rw [fstI_none hf] at h; omega
  | some k =>
    rw [fstI_some hf]
    refine fstI_some ?_
    unfold fstO at hf ⊢
    rw [List.find?_append, hf]; rfl
theorem fstI_snoc_new (N : Nt) (ls : List Nat) (l : Nat) (h : fstI N ls < 0) (hl : hasMsg (N.lane l) = true) : fstI N (ls ++ [l]) = l := by
  have hf : fstO N ls = none := by
    cases hf : fstO N ls with
    | none => rfl
    | some k => rw [fstI_some hf] at h; omega
  refine fstI_some ?_
  unfold fstO at hf ⊢
  rw [List.find?_append, hf]; simp [hl]
theorem fstI_snoc_no (N : Nt) (ls : List Nat) (l : Nat) (h : fstI N ls < 0) (hl : hasMsg (N.lane l) = false) : fstI N (ls ++ [l]) = fstI N ls := by
  have hf : fstO N ls = none := by
    cases hf : fstO N ls with
    | none => rfl
    | some k => rw [fstI_some hf] at h; omega
  have hg : fstO N (ls ++ [l]) = none := by
    unfold fstO at hf ⊢
    rw [List.find?_append, hf]; simp [hl]
  rw [fstI_none hf, fstI_none hg]
theorem allB_snoc (N : Nt) (ls : List Nat) (l : Nat) : allB N (ls ++ [l]) = (allB N ls && overB (N.lane l)) := by simp [allB]

/-! ### memory -/
/-- The lanes that are asked: a list of the caller's. -/
def ListIn (w : World) (own : Own) (b : Nat) (ls : List Nat) : Prop :=
  own b = none ∧ b < w.heap.size ∧ ∀ i, i < ls.length → w.cell? ⟨b, i, none⟩ = some (.int .i64 (ls.getD i 0))
theorem ListIn.keep {w w' : World} {own own' : Own} {b : Nat} {ls : List Nat} (h : ListIn w own b ls) (hm : Mv own.has w w') (hg : Grows w.heap.size own own') : ListIn w' own' b ls := by
  obtain ⟨h1, h2, h3⟩ := h
  refine ⟨hg _ h2 h1, Nat.lt_of_lt_of_le h2 hm.size, fun i hi => ?_⟩
  rw [hm.cell (p := ⟨b, i, none⟩) h2 (by unfold Own.has; rw [h1]; simp)]
  exact h3 i hi

/-- over. -/
theorem overL (w : World) (own : Own) (A : Ga) (i : Nat) (L : Lq) (h : LaneIs w own A i L L.shut) :
    Calls Try.prog 47 #[.pointer (some ⟨A.q i, 0, none⟩)] w fun e w' => e = .returned (.bool (overB L)) ∧ w = w' := by
  obtain ⟨h1, h2, h3, vs, s, r, h4, h5⟩ := h
  have c0 : w.cell? ⟨A.q i, 0, none⟩ = some (.chan (some (A.c i))) := cell_of_heap h3 0 rfl
  have c1 : w.cell? ⟨A.q i, 1, none⟩ = some (.bool L.closed) := cell_of_heap h3 1 rfl
  have c2 : w.cell? ⟨A.q i, 2, none⟩ = some (.int .i64 L.coming) := cell_of_heap h3 2 rfl
  cases hcl : L.closed with
  | false =>
    rw [hcl] at c1
    have : overB L = false := by simp [overB, Lq.shut, hcl]
    rw [this]
    exact over_open w (A.q i) c1
  | true =>
    rw [hcl] at c1
    by_cases hz : L.coming = 0
    · rw [hz] at c2
      have : overB L = decide (vs.size = 0) := by
        simp only [overB, Lq.shut, hcl, hz, h5.1]
        cases L.buf <;> simp
      rw [this]
      refine over_shut w (A.q i) (A.c i) 64 s r vs L.shut c0 c1 c2 h4 _ ?_
      by_cases hv : vs.size = 0 <;> simp [hv]
    · have : overB L = false := by simp [overB, Lq.shut, hz]
      rw [this]
      exact over_coming w (A.q i) L.coming c1 c2 (by simp; omega)

/-- A message is taken off lane i. -/
theorem LaneIs.pop {w : World} {own : Own} {A : Ga} {i : Nat} {L : Lq} {sh : Bool} {vs : Array Value} {s r : Nat} (h1 : own (A.q i) = some (.q i)) (h2 : own (A.c i) = some (.c i))
    (h3 : w.heap[A.q i]? = some (.cells #[.chan (some (A.c i)), .bool L.closed, .int .i64 L.coming] 86 (0, 0))) (h4 : w.heap[A.c i]? = some (.chan 64 vs sh s r false)) (h5 : BufIs w own i r vs L.buf) {m : List Int} {ms : List (List Int)} (hb : L.buf = m :: ms) :
    ∃ g v, vs.getD 0 undef = v ∧ MsgAt w g v m ∧ own g = some (.msg i r) ∧ g ≠ A.c i ∧ LaneIs (w.setChan (A.c i) 64 (vs.extract 1 vs.size) sh s (r + 1) false) (own.drop g) A i L.pop sh := by
  have hsz : vs.size = ms.length + 1 := by rw [h5.1, hb]; rfl
  have hv0 : vs[0]? = some (vs.getD 0 undef) := by
    rw [Array.getElem?_eq_getElem (by omega), Array.getD_eq_getD_getElem?, Array.getElem?_eq_getElem (by omega)]; rfl
  obtain ⟨g, hg, hm⟩ := h5.2 0 _ m hv0 (by rw [hb]; rfl)
  have hqc : A.q i ≠ A.c i := fun e => by rw [e, h4] at h3; cases h3
  have hgq : A.q i ≠ g := fun e => by rw [← e, h1] at hg; cases hg
  have hgc : A.c i ≠ g := fun e => by rw [← e, h2] at hg; cases hg
  have hoth : ∀ b, b ≠ A.c i → (w.setChan (A.c i) 64 (vs.extract 1 vs.size) sh s (r + 1) false).heap[b]? = w.heap[b]? := fun b hb => by
    simp only [World.setChan]
    rw [Array.getElem?_setIfInBounds_ne (Ne.symm hb)]
  refine ⟨g, _, rfl, hm, by simpa using hg, Ne.symm hgc, by rw [Own.drop_other _ hgq]; exact h1, by rw [Own.drop_other _ hgc]; exact h2, (hoth _ hqc).trans h3, vs.extract 1 vs.size, s, r + 1, heap_setChan _ _ _ _ _ _ _ _ (lt_of_heap h4), ?_, ?_⟩
  · simp [Lq.pop, hb, hsz]
  · intro j v l hv hl
    have hlj : L.buf[j + 1]? = some l := by simpa [Lq.pop, hb] using hl
    have hvj : vs[j + 1]? = some v := by
      rw [Array.getElem?_extract] at hv
      split at hv
      · rwa [Nat.add_comm] at hv
      · cases hv
    obtain ⟨g', hg', hm'⟩ := h5.2 (j + 1) v l hvj hlj
    have hne : g' ≠ g := fun e => by rw [e, hg] at hg'; simp at hg'
    have hne2 : g' ≠ A.c i := fun e => by rw [e, h2] at hg'; cases hg'
    exact ⟨g', by rw [Own.drop_other _ hne, hg']; congr 2; omega, hm'.of_block (hoth _ hne2)⟩
end Go.Proofs.Ytadalodjnbnjkaa

/- Plain: time that goes by without anything due; what a wait comes to. -/
namespace Go.Proofs.Ytadalodjnbnjkaa

def Nt.at (N : Nt) (t : Nat) : Nt := { N with now := t }
theorem foldl_quiet (nw : Nat) : ∀ (L : List Ml) (f : Nat → Lq) (acc : List Ml), (∀ x ∈ L, nw < x.due) → L.foldl (tickStep nw) (f, acc) = (f, acc ++ L)
  | [], f, acc, _ => by simp
  | x :: L, f, acc, h => by
    have hx : nw < x.due := h x (by simp)
    rw [List.foldl_cons]
    have : tickStep nw (f, acc) x = (f, acc ++ [x]) := by simp [tickStep, hx]
    rw [this, foldl_quiet nw L f _ (fun y hy => h y (by simp [hy]))]
    simp
theorem tick_quiet {N : Nt} (h : ∀ x ∈ N.later, N.now + 1 < x.due) : N.tick = N.at (N.now + 1) := by
  have e : N.ticked N.later.length = (N.lane, N.later) := by
    unfold Nt.ticked
    rw [List.take_length, foldl_quiet _ _ _ _ h]; simp
  unfold Nt.tick Nt.at
  rw [e]
theorem ticks_quiet {N : Nt} : ∀ (r : Nat), (∀ x ∈ N.later, N.now + r < x.due) → N.ticks r = N.at (N.now + r)
  | 0, _ => rfl
  | r + 1, h => by
    show (N.ticks r).tick = _
    have ih := ticks_quiet (N := N) r (fun x hx => by have := h x hx; omega)
    rw [ih]
    have : (N.at (N.now + r)).tick = (N.at (N.now + r)).at (N.now + r + 1) := tick_quiet (N := N.at (N.now + r)) (fun x hx => by have := h x hx; show N.now + r + 1 < x.due; omega)
    rw [this]; rfl
/-- Nothing is there, nothing comes for r ticks: the wait goes on from there. -/
theorem waitGo_quiet {N : Nt} {ls : List Nat} : ∀ (r t : Nat), fstO N ls = none → allB N ls = false → (∀ x ∈ N.later, N.now + r < x.due) → Nt.waitGo ls (r + t) N = Nt.waitGo ls t (N.at (N.now + r))
  | 0, t, _, _, _ => by rw [Nat.zero_add]; rfl
  | r + 1, t, h1, h2, h3 => by
    have e : r + 1 + t = (r + t) + 1 := by omega
    rw [e, waitGo_succ h1 h2, tick_quiet (fun x hx => by have := h3 x hx; omega)]
    have := waitGo_quiet (N := N.at (N.now + 1)) (ls := ls) r t h1 h2 (fun x hx => by have := h3 x hx; show N.now + 1 + r < x.due; omega)
    rw [this]
    show Nt.waitGo ls t ((N.at (N.now + 1)).at (N.now + 1 + r)) = _
    have e2 : N.now + 1 + r = N.now + (r + 1) := by omega
    rw [e2]; rfl
theorem waitGo_out {N : Nt} {ls : List Nat} (r : Nat) (h1 : fstO N ls = none) (h2 : allB N ls = false) (h3 : ∀ x ∈ N.later, N.now + r < x.due) : Nt.waitGo ls r N = ⟨0, none, 190, N.at (N.now + r)⟩ := by
  have := waitGo_quiet (N := N) (ls := ls) r 0 h1 h2 h3
  rw [Nat.add_zero] at this
  rw [this]
  exact waitGo_zero (N := N.at (N.now + r)) h1 h2
theorem fstO_one (N : Nt) (i : Nat) : fstO N [i] = if hasMsg (N.lane i) then some i else none := by
  unfold fstO; simp [List.find?_cons]
  cases hasMsg (N.lane i) <;> rfl
theorem allB_one (N : Nt) (i : Nat) : allB N [i] = overB (N.lane i) := by simp [allB]
/-- A message that waits on lane i is taken. -/
theorem waitGo_has {N : Nt} {i t : Nat} {m : List Int} {ms : List (List Int)} (h : (N.lane i).buf = m :: ms) : Nt.waitGo [i] t N = ⟨i, some m, 0, N.popped i⟩ := by
  have : fstO N [i] = some i := by rw [fstO_one]; simp [hasMsg, h]
  rw [waitGo_some this, h]; rfl
theorem waitGo_end {N : Nt} {i t : Nat} (h : (N.lane i).buf = []) (hs : (N.lane i).shut = true) : Nt.waitGo [i] t N = ⟨0, none, 191, N⟩ := by
  have h1 : fstO N [i] = none := by rw [fstO_one]; simp [hasMsg, h]
  have h2 : allB N [i] = true := by rw [allB_one]; simp [overB, h, hs]
  exact waitGo_over h1 h2 t
theorem fstO_empty {N : Nt} {i : Nat} (h : (N.lane i).buf = []) : fstO N [i] = none := by rw [fstO_one]; simp [hasMsg, h]
theorem allB_open {N : Nt} {i : Nat} (h : (N.lane i).shut = false) : allB N [i] = false := by rw [allB_one]; simp [overB, h]
/-- One message is late, and is due at the next tick. -/
theorem tick_one {N : Nt} {x : Ml} (h : N.later = [x]) (hd : x.due ≤ N.now + 1) : N.tick = { N with now := N.now + 1, lane := setL N.lane x.lane ((N.lane x.lane).take x.msg), later := [] } := by
  have e : N.ticked N.later.length = (setL N.lane x.lane ((N.lane x.lane).take x.msg), []) := by
    unfold Nt.ticked
    rw [h]
    have : ¬ N.now + 1 < x.due := by omega
    simp [tickStep, this]
  unfold Nt.tick
  rw [e]
end Go.Proofs.Ytadalodjnbnjkaa
