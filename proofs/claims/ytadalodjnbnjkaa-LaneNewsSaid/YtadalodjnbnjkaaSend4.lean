/- Send: the message takes its fate. -/
import Derived.Test.YtadalodjnbnjkaaSend3
namespace Go.Proofs.Ytadalodjnbnjkaa
open Go.RowKit Go.Conc

/-! ### plain -/
def Nt.sendAt (N : Nt) (i t : Nat) (m : List Int) : Nt := if t = 0 then N.pushed i m else N.delayed i t m
def Nt.fateOf (N : Nt) : Int × Int := N.fates.getD N.sent (0, 0)
def Nt.took (N : Nt) : Nt := { N with sent := N.sent + 1 }
/-- May it be a fate? -/
def mayF (f : Int × Int) : Prop :=
  f.1 = 0 ∨ f.1 = 1 ∨ ((f.1 = 2 ∨ f.1 = 3) ∧ 0 ≤ f.2 ∧ f.2 ≤ 1000) ∨ ((f.1 = 4 ∨ f.1 = 5) ∧ 0 ≤ f.2 ∧ f.2 ≤ 1048576)
def spoilt (m : List Int) (k : Nat) : List Int := m.set k (bits BinOp.xor IntKind.u8 (m.getD k 0) 1)
def Nt.fated (N : Nt) (i : Nat) (m : List Int) (f : Int × Int) : Nt :=
  if f.1 = 0 then N.pushed i m
  else if f.1 = 1 then N
  else if f.1 = 2 then (N.pushed i m).sendAt i f.2.toNat m
  else if f.1 = 3 then N.sendAt i f.2.toNat m
  else if f.1 = 4 then N.pushed i (m.take f.2.toNat)
  else N.pushed i (if f.2.toNat < m.length then spoilt m f.2.toNat else m)
def Nt.send (N : Nt) (i : Nat) (m : List Int) : Nt := N.took.fated i m N.fateOf

/-! ### the caller's message -/
def MsgIn (w : World) (own : Own) (ad : Addr) (l : List Int) : Prop :=
  own ad.block = none ∧ ad.block < w.heap.size ∧ ∀ j u, (ub l)[j]? = some u → w.cell? (ad.add j) = some u
theorem add_block (ad : Addr) (j : Nat) : (ad.add j).block = ad.block := by unfold Addr.add; split <;> rfl
theorem MsgIn.keep {w w' : World} {own own' : Own} {ad : Addr} {l : List Int} (h : MsgIn w own ad l) (hm : Mv own.has w w') (hg : Grows w.heap.size own own') : MsgIn w' own' ad l := by
  obtain ⟨h1, h2, h3⟩ := h
  refine ⟨hg _ h2 h1, Nat.lt_of_lt_of_le h2 hm.size, fun j u hj => ?_⟩
  rw [hm.cell (p := ad.add j) (by rw [add_block]; exact h2) (by rw [add_block]; unfold Own.has; rw [h1]; simp)]
  exact h3 j u hj
theorem MsgIn.take {w : World} {own : Own} {ad : Addr} {l : List Int} (h : MsgIn w own ad l) (k : Nat) : MsgIn w own ad (l.take k) := by
  obtain ⟨h1, h2, h3⟩ := h
  refine ⟨h1, h2, fun j u hj => h3 j u ?_⟩
  simp only [ub, List.map_take, List.getElem?_take] at hj
  split at hj
  · exact hj
  · cases hj

theorem fateCells_get (F : List (Int × Int)) : ∀ (s : Nat), s < F.length → (fateCells F)[s * 2]? = some (.int .i64 (F.getD s (0, 0)).1) ∧ (fateCells F)[s * 2 + 1]? = some (.int .i64 (F.getD s (0, 0)).2) := by
  induction F with
  | nil => intro s hs; simp at hs
  | cons f F ih =>
    intro s hs
    cases s with
    | zero => simp [fateCells]
    | succ s =>
      have := ih s (by simpa using hs)
      have e1 : (s + 1) * 2 = s * 2 + 1 + 1 := by omega
      have e2 : (s + 1) * 2 + 1 = s * 2 + 1 + 1 + 1 := by omega
      simp only [e1, List.getD_cons_succ]
      simpa [fateCells] using this

/-- The net's own block has turned, and nothing else. -/
theorem NetIs.head {w w' : World} {own : Own} {A : Ga} {N : Nt} {cap sent now : Nat} {fv lv : Value} (h0 : Lies w own) (h1 : own A.net = some .net) (h2 : ArrIs w own A N.nl cap) (h3 : FatesIs w own fv N.fates) (h4 : LaterIs w own lv N.later)
    (h5 : ∀ i, i < N.nl → LaneIs w own A i (N.lane i) (N.lane i).shut) (hm : Mv (· = A.net) w w')
    (hh : w'.heap[A.net]? = some (.cells #[.slice (some ⟨A.arr, 0, none⟩) N.nl cap, fv, .int .i64 sent, .int .i64 now, lv] 82 (0, 0))) : NetIs w' own A { N with sent := sent, now := now } := by
  have key : ∀ b t, own b = some t → t ≠ .net → own b = some t ∧ w'.heap[b]? = w.heap[b]? := fun b t hb ht => ⟨hb, hm.block b (h0 b t hb) (fun e => by subst e; rw [h1] at hb; cases hb; exact ht rfl)⟩
  exact ⟨h0.mono hm.size, cap, fv, lv, ⟨h1, hh⟩, h2.keep (fun ho => key _ _ ho (by simp)), h3.keep (fun b hb => key _ _ hb (by simp)),
    h4.keep (fun b hb => ⟨rfl, by rcases hb with hb | hb <;> exact (key _ _ hb (by simp)).2⟩), fun i hi => (h5 i hi).keep fun b t hb ht => key b t hb (by rcases ht with rfl | rfl | ⟨k, rfl⟩ <;> simp)⟩

def FatedL (w : World) (own : Own) (A : Ga) (N : Nt) (e : Ending) (w' : World) : Prop :=
  e = .returned (.agg #[.int .i64 N.fateOf.1, .int .i64 N.fateOf.2]) ∧ NetIs w' own A N.took ∧ Mv own.has w w'

theorem fateL (w : World) (own : Own) (A : Ga) (N : Nt) (h : NetIs w own A N) (hb : N.sent < 1099511627776) : Calls Try.prog 34 #[.pointer (some ⟨A.net, 0, none⟩)] w (FatedL w own A N) := by
  obtain ⟨h0, capl, fv, lv, h1, h2, h3, h4, h5⟩ := h
  have hn : ∀ b, b = A.net → own.has b := fun b e => by subst e; unfold Own.has; rw [h1.1]; simp
  have key : ∀ e w' k n, Fated w A.net (.slice (some ⟨A.arr, 0, none⟩) N.nl capl) fv N.sent (.int .i64 N.now) lv k n e w' → k = N.fateOf.1 → n = N.fateOf.2 → FatedL w own A N e w' := by
    rintro e w' k n ⟨rfl, hm, hh⟩ rfl rfl
    exact ⟨rfl, NetIs.head h0 h1.1 h2 h3 h4 h5 hm hh, hm.mono fun b _ e => hn b e⟩
  have hfv : ∃ fa n c, fv = .slice fa n c ∧ n = N.fates.length ∧ (N.sent < n → ∃ g, fa = some ⟨g, 0, none⟩) := by
    rcases h3.1.2 with ⟨h, hz⟩ | ⟨g, cap, cur, h, _⟩
    · exact ⟨none, 0, 0, h, hz.symm, fun hh => by omega⟩
    · exact ⟨_, _, _, h, rfl, fun _ => ⟨g, rfl⟩⟩
  obtain ⟨fa, n, c, hfv, hfn, hfa⟩ := hfv
  by_cases hs : N.sent < n
  · obtain ⟨g, hg⟩ := hfa hs
    have hfv' : fv = .slice (some ⟨g, 0, none⟩) n c := by rw [hfv, hg]
    have hb' : fv.ownBlock = some g := by rw [hfv']; rfl
    have hc := h3.1.cells hb'
    have hf := fateCells_get N.fates N.sent (by omega)
    have c1 := hc _ _ hf.1
    have c2 := hc _ _ hf.2
    have e1 : ∀ j, (⟨g, 0, none⟩ : Addr).add j = ⟨g, j, none⟩ := fun j => by unfold Addr.add; split <;> simp_all
    rw [e1] at c1 c2
    have hp := h1.2
    rw [hfv'] at hp
    refine (fate_some w A.net n c N.sent g _ _ lv _ _ hp hs hb c1 c2).mono fun e w' hh => ?_
    exact key e w' _ _ (by rw [hfv']; exact hh) rfl rfl
  · have hp := h1.2
    rw [hfv] at hp
    refine (fate_none w A.net n c N.sent _ _ lv fa hp (by omega) hb).mono fun e w' hh => ?_
    have : N.fateOf = (0, 0) := by
      unfold Nt.fateOf
      rw [List.getD_eq_getElem?_getD, List.getElem?_eq_none (by omega)]; rfl
    exact key e w' _ _ (by rw [hfv]; exact hh) (by rw [this]) (by rw [this])
end Go.Proofs.Ytadalodjnbnjkaa
