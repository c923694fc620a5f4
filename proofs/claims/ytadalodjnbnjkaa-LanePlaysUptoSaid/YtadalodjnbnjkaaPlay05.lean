/- Send, whatever its fate; and what is refused. -/
import Derived.Test.YtadalodjnbnjkaaPlay04
namespace Go.Proofs.Ytadalodjnbnjkaa
open Go.RowKit Go.Conc

theorem Fit.may {N : Nt} (h : Fit N) : mayF N.fateOf := by
  unfold Nt.fateOf
  by_cases hs : N.sent < N.fates.length
  · rw [List.getD_eq_getElem?_getD, List.getElem?_eq_getElem hs]
    exact h.fates _ (List.getElem_mem hs)
  · rw [List.getD_eq_getElem?_getD, List.getElem?_eq_none (by omega)]
    exact .inl rfl

theorem Send_ok (w : World) (own : Own) (A : Ga) (N : Nt) (i : Nat) (ad : Addr) (n cap : Nat) (l : List Int) (h : NetIs w own A N) (hf : Fit N) (hi : i < N.nl) (hop : (N.lane i).closed = false)
    (hn : l.length = n) (hl : n ≤ 1048576) (hcap : n ≤ cap) (hm : MsgIn w own ad l) :
    Calls Try.prog 18 #[.pointer (some ⟨A.net, 0, none⟩), .int .i64 i, .slice (some ad) n cap] w (Leaves w own A (N.send i l) (.returned (.int .i64 0))) := by
  have hmay := hf.may
  obtain ⟨k, m⟩ : ∃ k m, N.fateOf = (k, m) := ⟨_, _, rfl⟩
  obtain ⟨m, hkm⟩ := m
  unfold Nt.send
  rw [hkm] at hmay ⊢
  rcases hmay with h0 | h1 | ⟨h2, hm0, hm1⟩ | ⟨h4, hm0, hm1⟩
  · simp only at h0; subst h0
    exact Send_deliver w own A N i ad n cap l h hf hi hop hn hl hm m hkm
  · simp only at h1; subst h1
    exact Send_drop w own A N i ad n cap l h hf hi hop hn hl hm m hkm
  · simp only at h2 hm0 hm1
    obtain ⟨t, rfl⟩ := Int.eq_ofNat_of_zero_le hm0
    rcases h2 with rfl | rfl
    · exact Send_double w own A N i ad n cap l h hf hi hop hn hl hm t (by omega) hkm
    · exact Send_delay w own A N i ad n cap l h hf hi hop hn hl hm t (by omega) hkm
  · simp only at h4 hm0 hm1
    obtain ⟨t, rfl⟩ := Int.eq_ofNat_of_zero_le hm0
    rcases h4 with rfl | rfl
    · exact Send_cut w own A N i ad n cap l h hf hi hop hn hl hm t (by omega) hcap hkm
    · by_cases ht : t < n
      · have : N.took.fated i l (5, (t : Int)) = N.took.pushed i (spoilt l t) := by simp [Nt.fated, hn, ht]
        rw [this]
        exact Send_spoil w own A N i ad n cap l h hf hi hop hn hl hm t ht hkm
      · have : N.took.fated i l (5, (t : Int)) = N.took.pushed i l := by simp [Nt.fated, hn, ht]
        rw [this]
        exact Send_spoil_no w own A N i ad n cap l h hf hi hop hn hl hm t (by omega) hkm

theorem Send_noLane (w : World) (own : Own) (A : Ga) (N : Nt) (x : Int) (v : Value) (h : NetIs w own A N) (hi : x < 0 ∨ N.nl ≤ x) :
    Calls Try.prog 18 #[.pointer (some ⟨A.net, 0, none⟩), .int .i64 x, v] w fun e w' => e = .returned (.int .i64 192) ∧ w = w' := by
  obtain ⟨h0, capl, fv, lv, h1, h2, h3, h4, h5⟩ := h
  have g0 : w.cell? ⟨A.net, 0, none⟩ = some (.slice (some ⟨A.arr, 0, none⟩) N.nl capl) := cell_of_heap h1.2 0 rfl
  have HI := Lib.hid hi
  clear h0 h1 h2 h3 h4 h5 hi
  go_enter Try.func18, Try.ntmps18
  go_wp2_with (go_at_call 33; refine (has_no _ A.net N.nl capl _ _ g0 HI.out).mono ?_; rintro e w' ⟨rfl, rfl⟩)
  go_ret
  exact ⟨rfl, rfl⟩

theorem Send_closed (w : World) (own : Own) (A : Ga) (N : Nt) (i : Nat) (v : Value) (h : NetIs w own A N) (hi : i < N.nl) (hop : (N.lane i).closed = true) :
    Calls Try.prog 18 #[.pointer (some ⟨A.net, 0, none⟩), .int .i64 i, v] w fun e w' => e = .returned (.int .i64 191) ∧ w = w' := by
  obtain ⟨h0, capl, fv, lv, h1, h2, h3, h4, h5⟩ := h
  have g0 : w.cell? ⟨A.net, 0, none⟩ = some (.slice (some ⟨A.arr, 0, none⟩) N.nl capl) := cell_of_heap h1.2 0 rfl
  have g1 := h2.cell hi
  have gq : w.cell? ⟨A.q i, 1, none⟩ = some (.bool true) := by rw [← hop]; exact cell_of_heap (h5 i hi).2.2.1 1 rfl
  have hii : (i : Int) < N.nl := by omega
  clear h0 h1 h2 h3 h4 h5 hop
  go_enter Try.func18, Try.ntmps18
  go_wp2_with (go_at_call 33; refine (has_yes _ A.net N.nl capl _ _ g0 (by omega) (by omega)).mono ?_; rintro e w' ⟨rfl, rfl⟩)
  go_ret
  exact ⟨rfl, rfl⟩

theorem Send_long (w : World) (own : Own) (A : Ga) (N : Nt) (i : Nat) (ad : Option Addr) (n cap : Nat) (h : NetIs w own A N) (hi : i < N.nl) (hop : (N.lane i).closed = false) (hl : 1048576 < n) :
    Calls Try.prog 18 #[.pointer (some ⟨A.net, 0, none⟩), .int .i64 i, .slice ad n cap] w fun e w' => e = .returned (.int .i64 2) ∧ w = w' := by
  obtain ⟨h0, capl, fv, lv, h1, h2, h3, h4, h5⟩ := h
  have g0 : w.cell? ⟨A.net, 0, none⟩ = some (.slice (some ⟨A.arr, 0, none⟩) N.nl capl) := cell_of_heap h1.2 0 rfl
  have g1 := h2.cell hi
  have gq : w.cell? ⟨A.q i, 1, none⟩ = some (.bool false) := by rw [← hop]; exact cell_of_heap (h5 i hi).2.2.1 1 rfl
  have hii : (i : Int) < N.nl := by omega
  have hlong : (1048576 : Int) < n := by omega
  have hlong' : decide ((n : Int) > 1048576) = true := by simp; omega
  clear h0 h1 h2 h3 h4 h5 hop
  go_enter Try.func18, Try.ntmps18
  go_wp2_with (go_at_call 33; refine (has_yes _ A.net N.nl capl _ _ g0 (by omega) (by omega)).mono ?_; rintro e w' ⟨rfl, rfl⟩)
  go_ret
  exact ⟨rfl, rfl⟩
end Go.Proofs.Ytadalodjnbnjkaa

/- One tick, as plain data; and the steps of its round. -/
namespace Go.Proofs.Ytadalodjnbnjkaa
open Go.RowKit Go.Conc

/-! ### plain -/
def cnt (i : Nat) (L : List Ml) : Nat := (L.filter fun x => x.lane == i).length
theorem cnt_nil (i : Nat) : cnt i [] = 0 := rfl
theorem cnt_cons (i : Nat) (x : Ml) (L : List Ml) : cnt i (x :: L) = (if x.lane = i then 1 else 0) + cnt i L := by
  unfold cnt
  by_cases h : x.lane = i
  · simp [h]; omega
  · simp [h]
theorem cnt_append (i : Nat) (L M : List Ml) : cnt i (L ++ M) = cnt i L + cnt i M := by simp [cnt]
theorem cnt_le (i : Nat) (L : List Ml) : cnt i L ≤ L.length := List.length_filter_le _ _

/-- A lane takes a message that was on its way. -/
def Lq.take (L : Lq) (m : List Int) : Lq := { L.push m with coming := L.coming - 1 }
def tickStep (nw : Nat) (S : (Nat → Lq) × List Ml) (x : Ml) : (Nat → Lq) × List Ml :=
  if nw < x.due then (S.1, S.2 ++ [x]) else (setL S.1 x.lane ((S.1 x.lane).take x.msg), S.2)
def Nt.ticked (N : Nt) (k : Nat) : (Nat → Lq) × List Ml := (N.later.take k).foldl (tickStep (N.now + 1)) (N.lane, [])
def Nt.tick (N : Nt) : Nt := { N with now := N.now + 1, lane := (N.ticked N.later.length).1, later := (N.ticked N.later.length).2 }

/-- What holds of every net that calls have made. -/
structure Okn (N : Nt) : Prop where
  fates : ∀ f ∈ N.fates, mayF f
  later : ∀ x ∈ N.later, x.lane < N.nl ∧ x.msg.length ≤ 1048576
  coming : ∀ i, i < N.nl → (N.lane i).coming = cnt i N.later

theorem ticked_zero (N : Nt) : N.ticked 0 = (N.lane, []) := rfl
theorem ticked_succ (N : Nt) (k : Nat) (h : k < N.later.length) : N.ticked (k + 1) = tickStep (N.now + 1) (N.ticked k) N.later[k] := by
  unfold Nt.ticked
  rw [List.take_succ_eq_append_getElem h, List.foldl_append]
  rfl
theorem ticked_coming (N : Nt) (h : Okn N) : ∀ k, k ≤ N.later.length → ∀ i, i < N.nl → ((N.ticked k).1 i).coming = cnt i (N.ticked k).2 + cnt i (N.later.drop k) := by
  intro k
  induction k with
  | zero => intro _ i hi; rw [ticked_zero]; simp [h.coming i hi, cnt_nil]
  | succ k ih =>
    intro hk i hi
    have hlt : k < N.later.length := by omega
    have := ih (by omega) i hi
    rw [List.drop_eq_getElem_cons hlt, cnt_cons] at this
    rw [ticked_succ N k hlt]
    unfold tickStep
    split
    · simp only [cnt_append, cnt_cons, cnt_nil]
      omega
    · by_cases hji : i = N.later[k].lane
      · subst hji
        simp only [setL_same, Lq.take]
        simp at this
        omega
      · simp only [setL_other _ _ hji]
        rw [if_neg (Ne.symm hji)] at this
        omega
theorem ticked_len (N : Nt) : ∀ k, k ≤ N.later.length → (N.ticked k).2.length ≤ k := by
  intro k
  induction k with
  | zero => intro _; simp [ticked_zero]
  | succ k ih =>
    intro hk
    have := ih (by omega)
    rw [ticked_succ N k (by omega)]
    unfold tickStep
    split <;> simp <;> omega
theorem ticked_mem (N : Nt) : ∀ k, k ≤ N.later.length → ∀ x ∈ (N.ticked k).2, x ∈ N.later := by
  intro k
  induction k with
  | zero => intro _ x hx; simp [ticked_zero] at hx
  | succ k ih =>
    intro hk x hx
    rw [ticked_succ N k (by omega)] at hx
    unfold tickStep at hx
    split at hx
    · simp only [List.mem_append, List.mem_singleton] at hx
      rcases hx with hx | rfl
      · exact ih (by omega) x hx
      · exact List.getElem_mem _
    · exact ih (by omega) x hx
theorem Okn.tick {N : Nt} (h : Okn N) : Okn N.tick where
  fates := h.fates
  later := fun x hx => h.later x (ticked_mem N _ (Nat.le_refl _) x hx)
  coming := fun i hi => by
    have := ticked_coming N h _ (Nat.le_refl _) i hi
    simpa [Nt.tick, cnt_nil] using this

/-! ### the steps -/
theorem LaneIs.less {w : World} {own : Own} {A : Ga} {i : Nat} {L : Lq} (h : LaneIs w own A i L false) (hc : 1 ≤ L.coming) :
    LaneIs (w.setCell ⟨A.q i, 2, none⟩ (.int .i64 ((L.coming : Int) - 1))) own A i { L with coming := L.coming - 1 } false := by
  obtain ⟨h1, h2, h3, vs, s, r, h4, h5⟩ := h
  have hqc : A.c i ≠ A.q i := fun e => by rw [← e, h4] at h3; cases h3
  refine ⟨h1, h2, ?_, vs, s, r, by rw [heap_setCell_other hqc]; exact h4, h5.keep fun b k hb => ⟨hb, heap_setCell_other (fun e => by subst e; rw [h1] at hb; cases hb) _⟩⟩
  rw [heap_setCell_same h3]
  simp
  omega

def EndL (w : World) (own : Own) (A : Ga) (i : Nat) (L : Lq) (e : Ending) (w' : World) : Prop :=
  e = .returned (.tuple #[]) ∧ Mv (· = A.c i) w w' ∧ LaneIs w' own A i L L.shut

/-- end. -/
theorem endL (w : World) (own : Own) (A : Ga) (i : Nat) (L : Lq) (h : LaneIs w own A i L false) :
    Calls Try.prog 40 #[.pointer (some ⟨A.q i, 0, none⟩)] w (EndL w own A i L) := by
  have H := h
  obtain ⟨h1, h2, h3, vs, s, r, h4, h5⟩ := h
  have c0 : w.cell? ⟨A.q i, 0, none⟩ = some (.chan (some (A.c i))) := cell_of_heap h3 0 rfl
  have c1 : w.cell? ⟨A.q i, 1, none⟩ = some (.bool L.closed) := cell_of_heap h3 1 rfl
  have c2 : w.cell? ⟨A.q i, 2, none⟩ = some (.int .i64 L.coming) := cell_of_heap h3 2 rfl
  cases hcl : L.closed with
  | false =>
    rw [hcl] at c1
    refine (end_open w (A.q i) c1).mono ?_
    rintro e w' ⟨rfl, rfl⟩
    have : L.shut = false := by simp [Lq.shut, hcl]
    exact ⟨rfl, Mv.refl _ _, by rw [this]; exact H⟩
  | true =>
    rw [hcl] at c1
    by_cases hz : L.coming = 0
    · rw [hz] at c2
      refine (end_shut w (A.q i) (A.c i) 64 s r vs c0 c1 c2 h4).mono ?_
      rintro e w' ⟨rfl, rfl⟩
      have : L.shut = true := by simp [Lq.shut, hcl, hz]
      have hqc : A.c i ≠ A.q i := fun e => by rw [← e, h4] at h3; cases h3
      have hoth : ∀ b, b ≠ A.c i → (w.setChan (A.c i) 64 vs true s r false).heap[b]? = w.heap[b]? := fun b hb => by
        simp only [World.setChan]
        rw [Array.getElem?_setIfInBounds_ne (Ne.symm hb)]
      refine ⟨rfl, Mv.setChan (F := fun x => x = A.c i) (Mv.refl _ _) (.inl rfl) _ _ _ _ _ _, ?_⟩
      rw [this]
      exact ⟨h1, h2, (hoth _ (Ne.symm hqc)).trans h3, vs, s, r, heap_setChan _ _ _ _ _ _ _ _ (lt_of_heap h4), h5.keep fun b k hb => ⟨hb, hoth b (fun e => by subst e; rw [h2] at hb; cases hb)⟩⟩
    · refine (end_coming w (A.q i) L.coming c1 c2 (by simp; omega)).mono ?_
      rintro e w' ⟨rfl, rfl⟩
      have : L.shut = false := by simp [Lq.shut, hz]
      exact ⟨rfl, Mv.refl _ _, by rw [this]; exact H⟩

theorem latCells_get (X : List (Ml × Value)) : ∀ (k : Nat) (x : Ml × Value), X[k]? = some x →
    (latCells X)[k * 3]? = some (.int .i64 x.1.due) ∧ (latCells X)[k * 3 + 1]? = some (.int .i64 x.1.lane) ∧ (latCells X)[k * 3 + 2]? = some x.2 := by
  induction X with
  | nil => intro k x hx; simp at hx
  | cons y X ih =>
    intro k x hx
    cases k with
    | zero => simp at hx; subst hx; simp [latCells]
    | succ k =>
      have := ih k x (by simpa using hx)
      have e1 : (k + 1) * 3 = k * 3 + 1 + 1 + 1 := by omega
      have e2 : (k + 1) * 3 + 1 = k * 3 + 1 + 1 + 1 + 1 := by omega
      have e3 : (k + 1) * 3 + 2 = k * 3 + 2 + 1 + 1 + 1 := by omega
      rw [e3, e2, e1]
      simpa [latCells] using this
end Go.Proofs.Ytadalodjnbnjkaa

/- tick: the time goes on by one; what is due comes. -/
namespace Go.Proofs.Ytadalodjnbnjkaa
open Go.RowKit Go.Conc

def static (t : Tag) : Prop := t = .net ∨ t = .arr ∨ t = .fates ∨ t = .later ∨ t = .lat

/-- What holds at the head of a round of tick's loop: k of the messages have been looked at. -/
def TickRel (w0 : World) (own : Own) (A : Ga) (N : Nt) (X : List (Ml × Value)) (k : Nat) (left : Value) (wr : World) : Prop :=
  ∃ ownk Xl, Same w0.heap.size own ownk ∧ Lies wr ownk ∧ Mv own.has w0 wr ∧ (∀ b t, own b = some t → static t → wr.heap[b]? = w0.heap[b]?) ∧
    Xl.map Prod.fst = (N.ticked k).2 ∧ (∀ x ∈ Xl, x ∈ X) ∧ wr.ownsRow w0.heap.size 115 3 left Xl.length (latCells Xl) ∧ (∀ b, left.ownBlock = some b → ownk b = none) ∧
    (∀ i, i < N.nl → LaneIs wr ownk A i ((N.ticked k).1 i) ((N.ticked k).1 i).shut)

/-- What tick's loop stands on. -/
structure TickBase (w0 : World) (own : Own) (A : Ga) (N : Nt) (cap : Nat) (fv lv : Value) (X : List (Ml × Value)) : Prop where
  lies : Lies w0 own
  head : own A.net = some .net ∧ w0.heap[A.net]? = some (.cells #[.slice (some ⟨A.arr, 0, none⟩) N.nl cap, fv, .int .i64 N.sent, .int .i64 ((N.now + 1 : Nat) : Int), lv] 82 (0, 0))
  arr : ArrIs w0 own A N.nl cap
  fates : FatesIs w0 own fv N.fates
  map : X.map Prod.fst = N.later
  row : w0.ownsRow 0 115 3 lv X.length (latCells X)
  rowOwn : ∀ b, lv.ownBlock = some b → own b = some .later
  lat : LatOk w0 own X
  ok : Okn N

section
variable {w0 wr : World} {own ownk : Own} {A : Ga} {N : Nt} {cap k : Nat} {fv lv : Value} {X : List (Ml × Value)}

theorem tick_start (B : TickBase w0 own A N cap fv lv X) (h : ∀ i, i < N.nl → LaneIs w0 own A i (N.lane i) (N.lane i).shut) : TickRel w0 own A N X 0 (.slice none 0 0) w0 :=
  ⟨own, [], Same.refl _ _, B.lies, Mv.refl _ _, fun _ _ _ _ => rfl, rfl, fun x hx => by simp at hx, World.ownsRow_nil _ _ _ _, fun b hb => by simp [Value.ownBlock] at hb, h⟩

/-- The net behind the last round. -/
theorem tick_end (B : TickBase w0 own A N cap fv lv X) {left : Value} (h : TickRel w0 own A N X N.later.length left wr) : Leaves w0 own A N.tick (.returned (.tuple #[])) (.returned (.tuple #[])) (wr.setCell ⟨A.net, 4, none⟩ left) := by
  obtain ⟨ownk, Xl, hs, hl, hm, hst, hX, hXm, hrow, hown, hlane⟩ := h
  have hn : own.has A.net := by unfold Own.has; rw [B.head.1]; simp
  have hs' : ∀ b t, own b = some t → ownk b = some t := fun b t hb => (hs b (B.lies b t hb)).trans hb
  let ow : Own := match left.ownBlock with | some b => ownk.put b .later | none => ownk
  have how : ∀ b t, ownk b = some t → ow b = some t := fun b t hb => by
    simp only [ow]
    cases hlb : left.ownBlock with
    | none => exact hb
    | some g =>
      have := hown g hlb
      simp only
      rw [Own.put_other _ _ (fun e => by rw [e, this] at hb; cases hb)]; exact hb
  have hlies : Lies wr ow := by
    simp only [ow]
    cases hlb : left.ownBlock with
    | none => exact hl
    | some g => exact hl.put (hrow.lt g hlb).2 _
  have hgrow : Grows w0.heap.size own ow := by
    simp only [ow]
    cases hlb : left.ownBlock with
    | none => exact hs.grows
    | some g => exact hs.grows.put (hrow.lt g hlb).1 _
  have hlb : ∀ b, left.ownBlock = some b → ow b = some .later := fun b hb => by simp only [ow, hb]; exact Own.put_same _ _ _
  have hnl : ∀ b, left.ownBlock = some b → b ≠ A.net := fun b hb e => by have := hown b hb; rw [e, hs' _ _ B.head.1] at this; cases this
  have hset : ∀ b, b ≠ A.net → (wr.setCell ⟨A.net, 4, none⟩ left).heap[b]? = wr.heap[b]? := fun b hb => heap_setCell_other hb _
  have key : ∀ b t, own b = some t → static t → t ≠ .net → ow b = some t ∧ (wr.setCell ⟨A.net, 4, none⟩ left).heap[b]? = w0.heap[b]? := fun b t hb ht hne =>
    ⟨how b t (hs' b t hb), (hset b (fun e => by rw [e, B.head.1] at hb; cases hb; exact hne rfl)).trans (hst b t hb ht)⟩
  refine ⟨rfl, ow, ⟨hlies.mono (by simp [World.setCell]), cap, fv, left, ⟨how _ _ (hs' _ _ B.head.1), ?_⟩, B.arr.keep (fun ho => key _ _ ho (by simp [static]) (by simp)), B.fates.keep (fun b hb => key _ _ hb (by simp [static]) (by simp)), ?_, ?_⟩, hm.setCell (.inl hn) _, hgrow⟩
  · rw [heap_setCell_same ((hst _ _ B.head.1 (.inl rfl)).trans B.head.2)]
    simp [Nt.tick]
  · refine ⟨Xl, hX, ownsRow_keep (w := wr) ⟨hrow.1, ?_⟩ (fun b hb => hset b (hnl b hb)), hlb, fun x hx => ?_⟩
    · rcases hrow.2 with h | ⟨g, c, cur, h1, h2, h3⟩
      · exact .inl h
      · exact .inr ⟨g, c, cur, h1, Nat.zero_le _, h3⟩
    · exact (B.lat.keep (fun b hb => key b _ hb (by simp [static]) (by simp))) x (hXm x hx)
  · intro i hi
    refine (hlane i hi).keep fun b t hb ht => ⟨how b t hb, hset b (fun e => ?_)⟩
    rw [e, hs' _ _ B.head.1] at hb
    cases hb
    rcases ht with h | h | ⟨k, h⟩ <;> cases h

theorem ticked_skip (hk : k < N.later.length) (hdue : N.now + 1 < N.later[k].due) : N.ticked (k + 1) = ((N.ticked k).1, (N.ticked k).2 ++ [N.later[k]]) := by
  rw [ticked_succ N k hk]; simp [tickStep, hdue]
theorem ticked_come (hk : k < N.later.length) (hdue : ¬ N.now + 1 < N.later[k].due) :
    N.ticked (k + 1) = (setL (N.ticked k).1 N.later[k].lane (((N.ticked k).1 N.later[k].lane).take N.later[k].msg), (N.ticked k).2) := by
  rw [ticked_succ N k hk]; simp [tickStep, hdue]

/-- A round in which the message goes on. -/
theorem tick_skip (B : TickBase w0 own A N cap fv lv X) {x : Ml × Value} {left left' : Value} {wr1 wr' : World} {gg : Nat} (hk : k < N.later.length) (hx : X[k]? = some x)
    (hdue : N.now + 1 < x.1.due) {ownk : Own} {Xl : List (Ml × Value)} (hs : Same w0.heap.size own ownk) (hl : Lies wr ownk) (hm : Mv own.has w0 wr)
    (hst : ∀ b t, own b = some t → static t → wr.heap[b]? = w0.heap[b]?) (hX : Xl.map Prod.fst = (N.ticked k).2) (hXm : ∀ x ∈ Xl, x ∈ X)
    (hleft : ∀ b, left.ownBlock = some b → w0.heap.size ≤ b ∧ ownk b = none)
    (hlane : ∀ i, i < N.nl → LaneIs wr ownk A i ((N.ticked k).1 i) ((N.ticked k).1 i).shut)
    (h1 : Mv (fun _ => False) wr wr1) (hown : wr'.ownsRow w0.heap.size 115 3 left' (Xl.length + 1) (latCells Xl ++ [.int .i64 x.1.due, .int .i64 x.1.lane, x.2])) (hgrow : wr1.grownBy wr' left.ownBlock)
    (hgg : left'.ownBlock = some gg) (hat : left.ownBlock = some gg ∨ wr.heap.size ≤ gg) : TickRel w0 own A N X (k + 1) left' wr' := by
  have hxl : N.later[k] = x.1 := by
    have : (X.map Prod.fst)[k]? = some x.1 := by simp [hx]
    rw [B.map, List.getElem?_eq_getElem hk] at this
    exact Option.some.inj this
  have hold : ∀ b, b < wr.heap.size → left.ownBlock ≠ some b → wr'.heap[b]? = wr.heap[b]? := fun b hb hne =>
    (hgrow.block b (Nat.lt_of_lt_of_le hb h1.size) (Ne.symm hne)).trans (h1.block b hb id)
  have hown' : ∀ b t, ownk b = some t → wr'.heap[b]? = wr.heap[b]? := fun b t hb => hold b (hl b t hb) (fun e => by rw [(hleft b e).2] at hb; cases hb)
  have hsz : wr.heap.size ≤ wr'.heap.size := Nat.le_trans h1.size hgrow.size
  have hsk := ticked_skip (N := N) hk (by rw [hxl]; exact hdue)
  refine ⟨ownk, Xl ++ [x], hs, hl.mono hsz, ?_, ?_, ?_, ?_, ?_, ?_, ?_⟩
  · refine hm.trans' (G := fun b => left.ownBlock = some b) ⟨hgrow.os.trans h1.os, hgrow.tape.trans h1.tape, hgrow.output.trans h1.output, hsz, fun b hb hne => hold b hb hne⟩ fun b hb he => ?_
    have := (hleft b he).1
    omega
  · intro b t hb ht
    exact (hown' b t ((hs b (B.lies b t hb)).trans hb)).trans (hst b t hb ht)
  · rw [hsk]; simp [hX, hxl]
  · intro y hy
    simp only [List.mem_append, List.mem_singleton] at hy
    rcases hy with hy | rfl
    · exact hXm y hy
    · exact List.mem_of_getElem? hx
  · have : latCells (Xl ++ [x]) = latCells Xl ++ [.int .i64 x.1.due, .int .i64 x.1.lane, x.2] := latCells_snoc Xl x.1 x.2
    rw [this]; simpa using hown
  · intro b hb
    rw [hgg] at hb; cases hb
    rcases hat with h | h
    · exact (hleft gg h).2
    · exact hl.none h
  · intro i hi
    rw [hsk]
    exact (hlane i hi).keep fun b t hb _ => ⟨hb, hown' b t hb⟩

/-- A round in which the message comes. -/
theorem tick_come (B : TickBase w0 own A N cap fv lv X) {x : Ml × Value} {left : Value} {wr' : World} (hk : k < N.later.length) (hx : X[k]? = some x)
    (hdue : ¬ N.now + 1 < x.1.due) {ownk own' : Own} {Xl : List (Ml × Value)} (hs : Same w0.heap.size own ownk) (hl : Lies wr ownk) (hm : Mv own.has w0 wr)
    (hst : ∀ b t, own b = some t → static t → wr.heap[b]? = w0.heap[b]?) (hX : Xl.map Prod.fst = (N.ticked k).2) (hXm : ∀ x ∈ Xl, x ∈ X) (hrow : wr.ownsRow w0.heap.size 115 3 left Xl.length (latCells Xl))
    (hleft : ∀ b, left.ownBlock = some b → ownk b = none)
    (hlane : ∀ i, i < N.nl → LaneIs wr ownk A i ((N.ticked k).1 i) ((N.ticked k).1 i).shut) (hj : x.1.lane < N.nl)
    (h1 : Mv (fun b => b = A.c x.1.lane ∨ b = A.q x.1.lane) wr wr') (hs1 : Same wr.heap.size ownk own') (hl1 : Lies wr' own')
    (hL : LaneIs wr' own' A x.1.lane (((N.ticked k).1 x.1.lane).take x.1.msg) (((N.ticked k).1 x.1.lane).take x.1.msg).shut)
    (ho : ∀ i, i < N.nl → own (A.c i) = some (.c i) ∧ own (A.q i) = some (.q i)) : TickRel w0 own A N X (k + 1) left wr' := by
  have hxl : N.later[k] = x.1 := by
    have : (X.map Prod.fst)[k]? = some x.1 := by simp [hx]
    rw [B.map, List.getElem?_eq_getElem hk] at this
    exact Option.some.inj this
  have hsk := ticked_come (N := N) hk (by rw [hxl]; exact hdue)
  rw [hxl] at hsk
  have hs' : ∀ b t, own b = some t → ownk b = some t := fun b t hb => (hs b (B.lies b t hb)).trans hb
  have hoth : ∀ b t, ownk b = some t → t ≠ .c x.1.lane → t ≠ .q x.1.lane → wr'.heap[b]? = wr.heap[b]? := fun b t hb h2 h3 => h1.block b (hl b t hb) (fun e => by
    rcases e with rfl | rfl
    · rw [hs' _ _ (ho _ hj).1] at hb; cases hb; exact h2 rfl
    · rw [hs' _ _ (ho _ hj).2] at hb; cases hb; exact h3 rfl)
  refine ⟨own', Xl, hs.trans hs1 hm.size, hl1, ?_, ?_, ?_, hXm, ?_, ?_, ?_⟩
  · refine hm.trans' h1 fun b hb he => ?_
    unfold Own.has
    rcases he with rfl | rfl
    · rw [(ho _ hj).1]; simp
    · rw [(ho _ hj).2]; simp
  · intro b t hb ht
    refine (hoth b t (hs' b t hb) ?_ ?_).trans (hst b t hb ht)
    · rintro rfl; rcases ht with h | h | h | h | h <;> cases h
    · rintro rfl; rcases ht with h | h | h | h | h <;> cases h
  · rw [hsk]; exact hX
  · refine ownsRow_keep hrow fun b hb => h1.block b (hrow.lt b hb).2 (fun e => ?_)
    have := hleft b hb
    rcases e with rfl | rfl
    · rw [hs' _ _ (ho _ hj).1] at this; cases this
    · rw [hs' _ _ (ho _ hj).2] at this; cases this
  · intro b hb
    rw [hs1 b (hrow.lt b hb).2]; exact hleft b hb
  · intro i hi
    rw [hsk]
    by_cases hij : i = x.1.lane
    · subst hij
      simpa [setL_same] using hL
    · simp only [setL_other _ _ hij]
      refine (hlane i hi).keep fun b t hb ht => ⟨(hs1 b (hl b t hb)).trans hb, hoth b t hb ?_ ?_⟩
      · rintro rfl; rcases ht with h | h | ⟨_, h⟩ <;> cases h; exact hij rfl
      · rintro rfl; rcases ht with h | h | ⟨_, h⟩ <;> cases h; exact hij rfl
end
end Go.Proofs.Ytadalodjnbnjkaa

/- tick, walked. -/
namespace Go.Proofs.Ytadalodjnbnjkaa
open Go.RowKit Go.Conc

theorem LaneIs.still {w w' : World} {own : Own} {A : Ga} {i : Nat} {L : Lq} {sh : Bool} (h : LaneIs w own A i L sh) (hl : Lies w own) (hm : Mv (fun _ => False) w w') : LaneIs w' own A i L sh :=
  h.keep fun b t hb _ => ⟨hb, hm.block b (hl b t hb) id⟩

theorem ownsRow_drewN {w : World} {base : Nat} {e : TypeId} {size n : Nat} {v : Value} {xs : List Value} (h : w.ownsRow base e size v n xs) (k : Nat) : (w.drewN k).ownsRow base e size v n xs := h

set_option maxRecDepth 100000 in
set_option maxHeartbeats 3200000 in
theorem tick_any (w : World) (own : Own) (A : Ga) (N : Nt) (h : NetIs w own A N) (ok : Okn N) (hb1 : N.now < 1099511627776) (hb2 : N.later.length < 1099511627776) (hb3 : ∀ x ∈ N.later, x.due < 4398046511104) :
    Calls Try.prog 48 #[.pointer (some ⟨A.net, 0, none⟩)] w (Leaves w own A N.tick (.returned (.tuple #[]))) := by
  obtain ⟨i0, hi0, hz0, hz1, hz2⟩ := info_parts Try.info115
  obtain ⟨h0, cap, fv, lv, h1, h2, h3, ⟨X, hX, hX2, hX3, hX4⟩, h5⟩ := h
  have hxl : X.length = N.later.length := by rw [← hX]; simp
  have hlv : ∃ la c, lv = .slice la X.length c ∧ (0 < X.length → ∃ g, la = some ⟨g, 0, none⟩) := by
    rcases hX2.2 with ⟨h, hz⟩ | ⟨g, cap, cur, h, _⟩
    · exact ⟨none, 0, by rw [h, hz], fun hh => by omega⟩
    · exact ⟨_, _, h, fun _ => ⟨g, rfl⟩⟩
  obtain ⟨la, lc, rfl, hla⟩ := hlv
  have g3 : w.cell? ⟨A.net, 3, none⟩ = some (.int .i64 N.now) := cell_of_heap h1.2 3 rfl
  have g4 : w.cell? ⟨A.net, 4, none⟩ = some (.slice la X.length lc) := cell_of_heap h1.2 4 rfl
  have gf := free_of_heap h1.2 3
  have H0 := Lib.hid h0
  have H1 := Lib.hid h1
  have H2 := Lib.hid h2
  have H3 := Lib.hid h3
  have H5 := Lib.hid h5
  have HX := Lib.hid hX
  have HX2 := Lib.hid hX2
  have HX3 := Lib.hid hX3
  have HX4 := Lib.hid hX4
  have HXL := Lib.hid hxl
  have HLA := Lib.hid hla
  have hx3 : X.length < 1099511627776 := by omega
  have HB3 := Lib.hid hb3
  clear h0 h1 h2 h3 h5 hX hX2 hX3 hX4 hxl hla hb3
  go_enter Try.func48, Try.ntmps48
  go_wp2_with fail
  have hh : (w.setCell ⟨A.net, 3, none⟩ (.int .i64 ((N.now : Int) + 1))).heap[A.net]? = some (.cells #[.slice (some ⟨A.arr, 0, none⟩) N.nl cap, fv, .int .i64 N.sent, .int .i64 ((N.now + 1 : Nat) : Int), .slice la X.length lc] 82 (0, 0)) := by
    rw [heap_setCell_same H1.out.2]; simp
  have hne : ∀ b t, own b = some t → t ≠ .net → own b = some t ∧ (w.setCell ⟨A.net, 3, none⟩ (.int .i64 ((N.now : Int) + 1))).heap[b]? = w.heap[b]? := fun b t hb ht =>
    ⟨hb, heap_setCell_other (fun e => by rw [e, H1.out.1] at hb; cases hb; exact ht rfl) _⟩
  obtain ⟨w0, hw0⟩ : ∃ w0, w0 = w.setCell ⟨A.net, 3, none⟩ (.int .i64 ((N.now : Int) + 1)) := ⟨_, rfl⟩
  rw [← hw0] at hh hne ⊢
  have hsz0 : w0.heap.size = w.heap.size := by rw [hw0]; simp [World.setCell]
  have B : TickBase w0 own A N cap fv (.slice la X.length lc) X := ⟨H0.out.mono (by omega), ⟨H1.out.1, hh⟩, H2.out.keep (fun ho => hne _ _ ho (by simp)), H3.out.keep (fun b hb => hne _ _ hb (by simp)), HX.out,
    ownsRow_keep HX2.out (fun b hb => (hne b _ (HX3.out b hb) (by simp)).2), HX3.out, HX4.out.keep (fun b hb => hne _ _ hb (by simp)), ok⟩
  have hL0 : ∀ i, i < N.nl → LaneIs w0 own A i (N.lane i) (N.lane i).shut := fun i hi => (H5.out i hi).keep fun b t hb ht => hne b t hb (by rcases ht with rfl | rfl | ⟨k, rfl⟩ <;> simp)
  have R0 := tick_start B hL0
  have hmv0 : Mv own.has w w0 := by rw [hw0]; exact (Mv.refl _ _).setCell (.inl (by unfold Own.has; rw [H1.out.1]; simp)) _
  have HMV := Lib.hid hmv0
  have HSZ := Lib.hid hsz0
  have HB := Lib.hid B
  have HL0 := Lib.hid hL0
  clear hw0 hh hne B hL0 hmv0 hsz0 g3 g4 gf
  go_loopw [2, 18] (fun left i wr => ∃ k : Nat, k ≤ X.length ∧ i = .int .i64 k ∧ TickRel w0 own A N X k left wr) (fun _ i _ => X.length - (intOf i).toNat)
  case atStart => exact ⟨0, Nat.zero_le _, rfl, R0⟩
  case round =>
    obtain ⟨k, hk, rfl, hrel⟩ := hrel
    have HR := Lib.hid hrel
    obtain ⟨ownk, Xl, hs, hl, hm, hst, hXl, hXm, hrow, hleft, hlane⟩ := hrel
    have cn3 : wr.cell? ⟨A.net, 3, none⟩ = some (.int .i64 ((N.now : Int) + 1)) := by
      have := cell_of_heap ((hst _ _ HB.out.head.1 (.inl rfl)).trans HB.out.head.2) 3 rfl
      rw [this]; simp
    have cn0 : wr.cell? ⟨A.net, 0, none⟩ = some (.slice (some ⟨A.arr, 0, none⟩) N.nl cap) := cell_of_heap ((hst _ _ HB.out.head.1 (.inl rfl)).trans HB.out.head.2) 0 rfl
    have cnf : wr.frozen? ⟨A.net, 4, none⟩ = false := free_of_heap ((hst _ _ HB.out.head.1 (.inl rfl)).trans HB.out.head.2) 4
    have cn4 : wr.cell? ⟨A.net, 4, none⟩ = some (.slice la X.length lc) := cell_of_heap ((hst _ _ HB.out.head.1 (.inl rfl)).trans HB.out.head.2) 4 rfl
    have hnl : A.net < wr.heap.size := lt_of_heap ((hst _ _ HB.out.head.1 (.inl rfl)).trans HB.out.head.2)
    by_cases hlt : k < X.length
    · obtain ⟨gl, hgl⟩ := HLA.out (by omega)
      subst hgl
      obtain ⟨⟨⟨due, j, m⟩, v⟩, hx⟩ : ∃ x, X[k]? = some x := ⟨_, List.getElem?_eq_getElem hlt⟩
      have hkl : k < N.later.length := by rw [← HXL.out]; exact hlt
      have hxl : N.later[k] = ⟨due, j, m⟩ := by
        have : (X.map Prod.fst)[k]? = some (⟨due, j, m⟩ : Ml) := by simp [hx]
        rw [HX.out, List.getElem?_eq_getElem hkl] at this
        exact Option.some.inj this
      have hmem : (⟨due, j, m⟩ : Ml) ∈ N.later := by rw [← hxl]; exact List.getElem_mem _
      have hjm := ok.later _ hmem
      simp only at hjm
      have hgb : own gl = some .later := HX3.out gl rfl
      have hbl := hst _ _ hgb (by simp [static])
      have e1 : ∀ i, (⟨gl, 0, none⟩ : Addr).add i = ⟨gl, i, none⟩ := fun i => by unfold Addr.add; split <;> simp_all
      have hget := latCells_get X k _ hx
      have cc := (ownsRow_keep HB.out.row (w' := wr) (fun b hb => by simp [Value.ownBlock] at hb; subst hb; exact hbl)).cells (g := gl) rfl
      have c1 : wr.cell? ⟨gl, k * 3, none⟩ = some (.int .i64 due) := by have := cc _ _ hget.1; rw [e1] at this; exact this
      have c2 : wr.cell? ⟨gl, k * 3 + 1, none⟩ = some (.int .i64 j) := by have := cc _ _ hget.2.1; rw [e1] at this; exact this
      have c3 : wr.cell? ⟨gl, k * 3 + 2, none⟩ = some v := by have := cc _ _ hget.2.2; rw [e1] at this; exact this
      obtain ⟨g, hg, hmg⟩ := HB.out.lat _ (List.mem_of_getElem? hx)
      simp only at hmg
      have hmg := hmg.of_block (hst _ _ hg (by simp [static]))
      have HMG := Lib.hid hmg
      obtain ⟨mc, mcur, rfl, hmrest⟩ := hmg
      have hkk : (k : Int) < X.length := by omega
      have hk0 : (0 : Int) ≤ k := by omega
      have hgll : gl < wr.heap.size := World.block_lt_of_cell? _ _ c1
      have HRest := Lib.hid hmrest
      have HHx := Lib.hid hx
      have HXm := Lib.hid hXm
      have HXl := Lib.hid hXl
      have HLeft := Lib.hid hleft
      have HLane := Lib.hid hlane
      have HST := Lib.hid hst
      have HMEM := Lib.hid hmem
      have HHXL := Lib.hid hxl
      have hlen : Xl.length ≤ k := by
        have h1 := ticked_len N k (by omega)
        rw [← hXl] at h1
        simpa using h1
      clear hx hXm hXl hleft hlane hst cc hget e1 hbl hgb hmrest hmem hxl
      by_cases hdue : N.now + 1 < due
      · have hd : decide ((N.now : Int) + 1 < due) = true := by simp; omega
        have hd2 : (N.now : Int) + 1 < due := by omega
        go_wp2_with fail
        go_quiet (fail)
        go_wp2_with (at_builtin; refine wpList_append_lies _ rfl _ _ 80 rfl w0.heap.size 115 i0 _ 3 40 Try.underlying80 hi0 hz0 hz1 hz2 rfl (by decide) _ Xl.length (latCells Xl) rfl ?c0 ⟨wr.heap.size + 1, 0, none⟩ 1 1 [.int .i64 due, .int .i64 j, .slice (some ⟨g, 0, none⟩) m.length mc] rfl rfl ?c1 ?c2 ?c3 ?c4 ?c5 ?c6 (wr.heap.size + 1 + 1) ?c7 ?_)
        case c0 => exact (ownsRow_drewN (hrow.alloc _) nq).alloc _
        case c1 =>
          refine World.news_of_block (cs := #[.int .i64 due, .int .i64 j, .slice (some ⟨g, 0, none⟩) m.length mc]) (t := 115) (fr := (0, 0)) ?_
          have := heap_alloc_new ((wr.alloc (.cells #[.int .i64 due, .int .i64 j, .slice (some ⟨g, 0, none⟩) m.length mc] 115)).drewN nq) (.cells #[.int .i64 due, .int .i64 j, .slice (some ⟨g, 0, none⟩) m.length mc] 115)
          simpa using this
        case c2 =>
          intro u hu
          simp at hu
          rcases hu with rfl | rfl | rfl <;> rfl
        case c3 => omega
        case c4 => unfold maxLen; omega
        case c5 => omega
        case c6 => have := hm.size; simp; omega
        case c7 => simp
        intro gg cp w1 hown1 hgrow hat hlt1
        have hR := tick_skip (k := k) (left' := .slice (some ⟨gg, 0, none⟩) (Xl.length + 1) cp) (gg := gg) HB.out (by rw [← HXL.out]; exact hlt) HHx.out hdue hs hl hm HST.out HXl.out HXm.out (fun b hb => ⟨(hrow.lt b hb).1, HLeft.out b hb⟩) HLane.out ((((Mv.refl _ _).alloc _).drewN _).alloc _) hown1 hgrow rfl (hat.imp id (fun h => by omega))
        have HRR := Lib.hid hR
        clear hown1 hgrow hat hR hrow hm hs hl
        go_wp2
        go_roundw
        case rel => exact ⟨k + 1, by omega, by go_num, HRR.out⟩
        case measure => simp [intOf]; omega
      · have hd : decide ((N.now : Int) + 1 < due) = false := by simp; omega
        have hjn : (j : Int) < N.nl := by omega
        have hj0 : (0 : Int) ≤ j := by omega
        have ca := (HB.out.arr.keep (w' := wr) (own' := own) (fun ho => ⟨ho, HST.out _ _ ho (by simp [static])⟩)).cell hjm.1
        have hal : A.arr < wr.heap.size := World.block_lt_of_cell? _ _ ca
        go_wp2_with fail
        go_quiet (fail)
        go_wp2_with fail
        go_quiet (fail)
        go_wp2_with fail
        have hqn : ∀ i, i < N.nl → own (A.c i) = some (.c i) ∧ own (A.q i) = some (.q i) := fun i hi => ⟨(HL0.out i hi).2.1, (HL0.out i hi).1⟩
        have hco := ticked_coming N ok k (by omega) j hjm.1
        rw [List.drop_eq_getElem_cons hkl, cnt_cons, HHXL.out] at hco
        simp only [if_true] at hco
        have hL := HLane.out j hjm.1
        obtain ⟨L, hLd⟩ : ∃ L, L = (N.ticked k).1 j := ⟨_, rfl⟩
        rw [← hLd] at hL hco
        have hsh : L.shut = false := by simp [Lq.shut]; omega
        rw [hsh] at hL
        have hcb : L.coming < 4398046511104 := by
          have e1 := cnt_le j (N.ticked k).2
          have e2 := cnt_le j (N.later.drop (k + 1))
          have e3 := ticked_len N k (by omega)
          simp only [List.length_drop] at e2
          omega
        have hc1 : 1 ≤ L.coming := by omega
        have hst1 : ∀ n, Mv (fun _ => False) wr ((wr.alloc (.cells #[.int .i64 due, .int .i64 j, .slice (some ⟨g, 0, none⟩) m.length mc] 115)).drewN n) := fun n => ((Mv.refl _ _).alloc _).drewN _
        have HCO := Lib.hid hco
        have HLD := Lib.hid hLd
        clear hco hLd hsh
        refine (comeL _ ownk A j L ⟨g, 0, none⟩ m.length mc m (hL.still hl (hst1 _)) (hl.mono (hst1 _).size) rfl (HMG.out.of_block ((hst1 _).block _ HMG.out.lt id)).cells (by omega)).mono ?_
        rintro e w2 ⟨rfl, hmv2, own2, hs2, hl2, hL2⟩
        have cq2 : w2.cell? ⟨A.q j, 2, none⟩ = some (.int .i64 L.coming) := cell_of_heap hL2.2.2.1 2 rfl
        have cqf : w2.frozen? ⟨A.q j, 2, none⟩ = false := free_of_heap hL2.2.2.1 2
        have HQN := Lib.hid hqn
        have HST1 := Lib.hid hst1
        have HS2 := Lib.hid hs2
        have HL2 := Lib.hid hL2
        have HMV2 := Lib.hid hmv2
        clear hqn hst1 hs2 hL2 hmv2 hL
        go_wp2_with fail
        refine (endL _ own2 A j { L.push m with coming := L.coming - 1 } (HL2.out.less hc1)).mono ?_
        rintro e w3 ⟨rfl, hmv3, hL3⟩
        have hsz2 := HMV2.out.size
        have hsz3 := hmv3.size
        have hR : TickRel w0 own A N X (k + 1) u2 w3 := by
          refine tick_come (k := k) (wr := wr) (own' := own2) HB.out hkl HHx.out hdue hs hl hm HST.out HXl.out HXm.out hrow HLeft.out HLane.out hjm.1 ?_ ?_ ?_ ?_ HQN.out
          · refine ((((HST1.out _).mono (fun _ _ h => h.elim)).trans' HMV2.out (fun _ _ h => .inl h)).setCell (.inl (.inr rfl)) _).trans' hmv3 (fun _ _ h => .inl h)
          · exact fun b hb => HS2.out b (Nat.lt_of_lt_of_le hb (HST1.out _).size)
          · exact (hl2.mono (by simp [World.setCell])).mono hsz3
          · simp only [← HLD.out]; exact hL3
        have HRR := Lib.hid hR
        clear hR hrow hm hs hl hmv3 hL3
        go_wp2
        go_roundw
        case rel => exact ⟨k + 1, by omega, by go_num, HRR.out⟩
        case measure => simp [intOf]; omega
    · have hge : (X.length : Int) ≤ (k : Int) := by omega
      obtain ⟨ua, un, uc, rfl⟩ : ∃ a n c, u2 = .slice a n c := by
        rcases hrow.2 with ⟨h, _⟩ | ⟨g, c, cur, h, _⟩
        · exact ⟨_, _, _, h⟩
        · exact ⟨_, _, _, h⟩
      clear hs hl hm hst hXl hXm hrow hleft hlane
      go_wp2
      have hke : k = X.length := by omega
      refine bodyPost_end (results_none rfl _ _ _) rfl ?_
      have := tick_end HB.out (wr := wr) (left := .slice ua un uc) (by rw [← HXL.out, ← hke]; exact HR.out)
      exact Leaves.trans HMV.out (Grows.refl _ _) this
end Go.Proofs.Ytadalodjnbnjkaa
