/- A script that came in, opened, and how long its parts are. -/
import Derived.Test.YtadalodjnbnjkaaRows
import Derived.Test.YtadalodjnbnjkaaPlay27
import Derived.Test.YtadalodjnbnjkaaPlay28
namespace Go.Proofs.Ytadalodjnbnjkaa
open Go.RowKit Go.Conc Go.ChangeShapes Go.WideShapes Go.ChangeAt

theorem Try.cells107 : Try.prog.cellsOf 107 = 6 := by kernel_rfl
theorem Try.cells67' : Try.prog.cellsOf 67 = 1 := by kernel_rfl
theorem Try.cells47' : Try.prog.cellsOf 47 = 1 := by kernel_rfl
theorem Try.cells5' : Try.prog.cellsOf 5 = 1 := by kernel_rfl
theorem list6 {α : Type} {l : List α} (h : l.length = 6) : ∃ v0 v1 v2 v3 v4 v5, l = [v0, v1, v2, v3, v4, v5] := by
  match l, h with
  | [v0, v1, v2, v3, v4, v5], _ => exact ⟨v0, v1, v2, v3, v4, v5, rfl⟩

/-! ### bulk -/
theorem bulk_pos {H : Type} (d : DataW H) : 1 ≤ Rows.uptoBulk d := by
  cases d with
  | lit l => cases l <;> simp [Rows.uptoBulk]
  | nil => simp [Rows.uptoBulk]
  | ptr d => simp [Rows.uptoBulk]
  | slice elems spare => simp [Rows.uptoBulk]
  | agg parts => simp [Rows.uptoBulk]
  | iface t d => simp [Rows.uptoBulk]
  | map entries => simp [Rows.uptoBulk]
  | held h => simp [Rows.uptoBulk]
theorem bulk_mem {H : Type} : ∀ {l : List (DataW H)} {d : DataW H}, d ∈ l → Rows.uptoBulk d ≤ Rows.uptoBulkAll l
  | x :: r, d, h => by
    simp only [Rows.uptoBulkAll]
    rcases List.mem_cons.1 h with rfl | h
    · omega
    · have := bulk_mem h; omega
theorem bulk_length {H : Type} : ∀ l : List (DataW H), l.length ≤ Rows.uptoBulkAll l
  | [] => Nat.zero_le _
  | x :: r => by have := bulk_length r; have := bulk_pos x; simp only [Rows.uptoBulkAll, List.length_cons]; omega
theorem bulk_slice {H : Type} (elems spare : List (DataW H)) : elems.length + spare.length ≤ Rows.uptoBulk (.slice elems spare) := by
  have h1 := bulk_length elems
  have h2 := bulk_length spare
  simp only [Rows.uptoBulk]
  omega

/-! ### slices of ints, of bytes -/
theorem spot_none {W : World} {a : Addr} {v : Value} (h : W.cell? (a.add 0) = some v) : a.spot = none := by
  have e : a.add 0 = a := by unfold Addr.add; simp
  rw [e] at h
  cases hsp : a.spot with
  | none => rfl
  | some y =>
    unfold World.cell? at h
    split at h <;> simp_all
instance : Inhabited OpV := ⟨⟨0, 0, 0, 0, none, 0, 0, [], none, 0, 0, []⟩⟩
theorem add_plain (b o i : Nat) : (⟨b, o, none⟩ : Addr).add i = ⟨b, o + i, none⟩ := by unfold Addr.add; split <;> simp_all
theorem getD_take {l : List Int} {n i : Nat} (h : i < n) : (l.take n).getD i 0 = l.getD i 0 := by
  rw [List.getD_eq_getElem?_getD, List.getD_eq_getElem?_getD, List.getElem?_take_of_lt h]
theorem ints_of_trod {H : Type} {enc : TypeId × Value → H} {W : World} {fuel : Nat} {cs : List Value} {x : DataW H × List MemPlace} (h : DataW.trod enc Try.prog W 0 (fun _ => true) true fuel 67 cs = some x) :
    ∃ (a : Option Addr) (n c : Nat) (zs : List Int), cs = [.slice a n c] ∧ IntsIn W a zs ∧ zs.length = n ∧ n ≤ Rows.uptoBulk x.1 := by
  rcases open_ints Try.underlying67 Try.underlying3 Try.cells3' h with ⟨rfl, rfl⟩ | ⟨a, l, c, zs, rfl, _, hl, hm, hz, rfl, hcell, hwz⟩
  · exact ⟨none, 0, 0, [], rfl, .inl rfl, rfl, Nat.zero_le _⟩
  · simp only [if_true] at hz
    refine ⟨some a, l, c, zs.take l, rfl, ?_, by rw [List.length_take]; omega, ?_⟩
    · by_cases h0 : l = 0
      · exact .inl (by rw [h0]; rfl)
      · right
        have hs := spot_none (hcell 0 (by omega))
        obtain ⟨b, o, sp⟩ := a
        simp only at hs
        subst hs
        refine ⟨b, o, rfl, fun j hj => ?_⟩
        rw [List.length_take] at hj
        have := hcell j (by omega)
        rw [add_plain] at this
        rw [getD_take (by omega)]
        exact this
    · refine Nat.le_trans ?_ (bulk_slice _ _)
      simp [lits]
      omega
theorem bytes_of_trod {H : Type} {enc : TypeId × Value → H} {W : World} {fuel : Nat} {cs : List Value} {x : DataW H × List MemPlace} (h : DataW.trod enc Try.prog W 0 (fun _ => true) true fuel 47 cs = some x) :
    ∃ (a : Option Addr) (n c : Nat) (m : List Int), cs = [.slice a n c] ∧ RowIn W a n m ∧ n ≤ Rows.uptoBulk x.1 := by
  rcases open_ints Try.underlying47 Try.underlying5 Try.cells5' h with ⟨rfl, rfl⟩ | ⟨a, l, c, zs, rfl, _, hl, hm, hz, rfl, hcell, hwz⟩
  · exact ⟨none, 0, 0, [], rfl, ⟨rfl, .inl rfl⟩, Nat.zero_le _⟩
  · simp only [if_true] at hz
    refine ⟨some a, l, c, zs.take l, rfl, ⟨by rw [List.length_take]; omega, ?_⟩, ?_⟩
    · by_cases h0 : l = 0
      · exact .inl h0
      · right
        have hs := spot_none (hcell 0 (by omega))
        obtain ⟨b, o, sp⟩ := a
        simp only at hs
        subst hs
        refine ⟨b, o, rfl, fun j hj => ?_⟩
        have := hcell j (by omega)
        rw [add_plain] at this
        rw [getD_take hj]
        exact this
    · refine Nat.le_trans ?_ (bulk_slice _ _)
      simp [lits]
      omega

/-! ### one step, a script -/
theorem op_of_trod {H : Type} {enc : TypeId × Value → H} {W : World} {fuel : Nat} {cs : List Value} {x : DataW H × List MemPlace} (h : DataW.trod enc Try.prog W 0 (fun _ => true) true fuel 107 cs = some x) (hb : Rows.uptoBulk x.1 ≤ 1048576) :
    ∃ o : OpV, cs = o.cells ∧ o.lies W := by
  obtain ⟨xs, n, _, rfl, hl, hlen, hf⟩ := DataW.trod_struct Try.underlying107 h
  rw [Try.cells107] at hl
  obtain ⟨v0, v1, v2, v3, v4, v5, rfl⟩ := list6 hl
  obtain ⟨y0, y1, y2, y3, y4, y5, rfl⟩ := list6 (l := xs) hlen
  have g0 := hf 0 _ rfl
  have g1 := hf 1 _ rfl
  have g2 := hf 2 _ rfl
  have g3 := hf 3 _ rfl
  have g4 := hf 4 _ rfl
  have g5 := hf 5 _ rfl
  simp [Try.cells3', Try.cells47', Try.cells67'] at g0 g1 g2 g3 g4 g5
  obtain ⟨z0, e0, _⟩ := DataW.trod_int Try.underlying3 g0
  obtain ⟨z1, e1, _⟩ := DataW.trod_int Try.underlying3 g1
  obtain ⟨z2, e2, _⟩ := DataW.trod_int Try.underlying3 g2
  obtain ⟨z3, e3, _⟩ := DataW.trod_int Try.underlying3 g3
  obtain ⟨la, ln, lc, zs, e4, hz, hzl, hzb⟩ := ints_of_trod g4
  obtain ⟨da, dn, dc, m, e5, hm, hmb⟩ := bytes_of_trod g5
  simp at e0 e1 e2 e3 e4 e5
  subst e0 e1 e2 e3 e4 e5
  have h4 : Rows.uptoBulk y4.1 ≤ 1048576 := Nat.le_trans (by simp [Rows.uptoBulk, Rows.uptoBulkAll]; omega) hb
  have h5 : Rows.uptoBulk y5.1 ≤ 1048576 := Nat.le_trans (by simp [Rows.uptoBulk, Rows.uptoBulkAll]; omega) hb
  exact ⟨⟨z0, z1, z2, z3, la, ln, lc, zs, da, dn, dc, m⟩, rfl, hz, hzl, by show ln ≤ _; omega, hm, by show dn ≤ _; omega⟩
set_option maxRecDepth 100000 in
theorem script_of_trod {H : Type} {enc : TypeId × Value → H} {W : World} {fuel : Nat} {cs : List Value} {x : DataW H × List MemPlace} (h : DataW.trod enc Try.prog W 0 (fun _ => true) true fuel 76 cs = some x) (hb : Rows.uptoBulk x.1 ≤ 1048576) :
    ∃ (a : Option Addr) (n c : Nat) (ops : List OpV), cs = [.slice a n c] ∧ ops.length = n ∧ ScriptIn W a ops ∧ n ≤ 1048576 := by
  rcases Go.Deep.open_slice Try.underlying76 h with ⟨rfl, _⟩ | ⟨a, len, cap, m, n, D, Pl, rfl, _, hl, hm, hmm, rfl, hx⟩
  · exact ⟨none, 0, 0, [], rfl, rfl, ⟨.inl rfl, fun o ho => by cases ho⟩, Nat.zero_le _⟩
  · simp only [if_true] at hmm
    subst hmm
    have key : ∀ i, i < len → ∃ o : OpV, W.cells? 0 (a.add (i * 6)) 6 = some o.cells ∧ o.lies W := fun i hi => by
      obtain ⟨cs', h1, h2⟩ := hx i (by omega)
      rw [Try.cells107] at h1
      have hd : Rows.uptoBulk (D i) ≤ 1048576 := by
        refine Nat.le_trans ?_ hb
        have := bulk_mem (l := (List.range len).map D) (d := D i) (List.mem_map.2 ⟨i, List.mem_range.2 hi, rfl⟩)
        simp only [Rows.uptoBulk]
        omega
      obtain ⟨o, rfl, ho⟩ := op_of_trod h2 hd
      exact ⟨o, h1, ho⟩
    obtain ⟨V, hV⟩ := Go.Deep.choose_lt (α := OpV) (n := len) (p := fun i o => W.cells? 0 (a.add (i * 6)) 6 = some o.cells ∧ o.lies W) key
    have hlb : len ≤ 1048576 := by
      refine Nat.le_trans ?_ hb
      refine Nat.le_trans ?_ (bulk_slice _ _)
      simp
    refine ⟨some a, len, _, (List.range len).map V, rfl, by simp, ⟨?_, fun o ho => ?_⟩, hlb⟩
    · by_cases h0 : len = 0
      · exact .inl (by rw [h0]; rfl)
      · right
        have hs : a.spot = none := by
          obtain ⟨_, _, hc⟩ := World.cells?_some (hV 0 (by omega)).1
          have e := hc 0 (by omega)
          have e2 : (a.add (0 * 6)).add 0 = a.add 0 := by unfold Addr.add; split <;> simp_all
          rw [e2] at e
          exact spot_none e
        obtain ⟨b, o, sp⟩ := a
        simp only at hs
        subst hs
        refine ⟨b, o, rfl, fun j hj f v hv => ?_⟩
        have hj' : j < len := by simpa using hj
        obtain ⟨_, hln, hc⟩ := World.cells?_some (hV j hj').1
        have hf : f < 6 := by
          have := (List.getElem?_eq_some_iff.1 hv).1
          simpa [OpV.cells] using this
        have e := hc f hf
        rw [add_plain, add_plain] at e
        have e3 : ((List.range len).map V)[j]'hj = V j := by simp
        rw [e3] at hv
        rw [show o + (j * 6 + f) = o + j * 6 + f by omega, e]
        exact hv
    · obtain ⟨j, hj, rfl⟩ := List.mem_map.1 ho
      exact (hV j (List.mem_range.1 hj)).2
end Go.Proofs.Ytadalodjnbnjkaa
