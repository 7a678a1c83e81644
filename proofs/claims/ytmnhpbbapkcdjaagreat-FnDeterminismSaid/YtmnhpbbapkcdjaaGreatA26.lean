/- Plain law: numbering by classes that agree keeps the language. No program in sight; Walks: equal automata; Walks: whether an automaton is minimal, the implementation; Plain law: the classes agree; both sides' numberings are one; what is minimized is minimal. No program in sight. No condition. -/
import Derived.Test.YtmnhpbbapkcdjaaGreatA25

/- Plain law: numbering by classes that agree keeps the language. No program in sight. -/
namespace Go.Proofs.YtmnhpbbapkcdjaaGreat

/-- state s is there and live -/
def GS (a : Aut) (s : Int) : Prop := 0 ≤ s ∧ s < a.n ∧ (liveF a)[s.toNat]?.getD false = true
/-- live states of one class accept alike and step to one class -/
structure Cong (a : Aut) (cls : List Int) : Prop where
  rng : ∀ s : Nat, s < a.n → (liveF a)[s]?.getD false = true → 0 ≤ cls[s]?.getD 0 ∧ cls[s]?.getD 0 < a.n
  ac : ∀ s t, GS a s → GS a t → cfun cls s = cfun cls t → nac a s = nac a t
  nx : ∀ s t k, GS a s → GS a t → cfun cls s = cfun cls t → k < 9 → OptR (fun x y => cfun cls x = cfun cls y) (nnx a (liveF a) s k) (nnx a (liveF a) t k)
section
variable {a : Aut} {cls : List Int}
theorem fits_nx (hf : a.Fits) {s : Int} {k : Nat} (h0 : 0 ≤ s) (h1 : s < a.n) (hk : k < 9) : -1 ≤ a.nx s.toNat k ∧ a.nx s.toNat k < a.n := (hf.2.2.2 s.toNat (by omega)).2 k hk
theorem nnx_some {s t : Int} {k : Nat} (h : nnx a (liveF a) s k = some t) : 0 ≤ a.nx s.toNat k ∧ (liveF a)[(a.nx s.toNat k).toNat]?.getD false = true ∧ a.nx s.toNat k = t := by
  unfold nnx at h
  split at h
  · rename_i hh; injection h with h; exact ⟨hh.1, hh.2, h⟩
  · cases h
theorem nnx_none {s : Int} {k : Nat} (h : nnx a (liveF a) s k = none) : ¬ (0 ≤ a.nx s.toNat k ∧ (liveF a)[(a.nx s.toNat k).toNat]?.getD false = true) := by
  unfold nnx at h
  split at h
  · cases h
  · rename_i hh; exact hh
theorem nnx_gs (hf : a.Fits) {s t : Int} {k : Nat} (hs : GS a s) (hk : k < 9) (h : nnx a (liveF a) s k = some t) : GS a t := by
  obtain ⟨h1, h3, rfl⟩ := nnx_some h
  have h2 := fits_nx hf hs.1 hs.2.1 hk
  exact ⟨h1, h2.2, h3⟩
theorem Cong.good (h : Cong a cls) (hf : a.Fits) : Good (GS a) (cfun cls) (nnx a (liveF a)) a.n := by
  refine ⟨fun s k t hs hk e => nnx_gs hf hs hk e, fun l hl hn => ?_⟩
  have := nodup_bound a.n (l.map (cfun cls)) hn (fun x hx => by
    obtain ⟨y, hy, rfl⟩ := List.mem_map.1 hx
    have hg := hl y hy
    exact h.rng y.toNat (by have := hg.1; have := hg.2.1; omega) hg.2.2)
  simpa using this
/-- the states found, each class once -/
noncomputable def fnd (a : Aut) (cls : List Int) : List Int := numL (cfun cls) (nnx a (liveF a)) (a.n + 1) 0 [a.start]
theorem start_gs (hf : a.Fits) (hl : (liveF a)[a.start.toNat]?.getD false = true) : GS a a.start := ⟨hf.1, hf.2.1, hl⟩
theorem fnd_good (h : Cong a cls) (hf : a.Fits) (hl : (liveF a)[a.start.toNat]?.getD false = true) : GoodL (GS a) (cfun cls) (fnd a cls) :=
  numL_good (h.good hf) _ _ _ ⟨fun x hx => by simp at hx; subst hx; exact start_gs hf hl, by simp⟩
theorem fnd_start (a : Aut) (cls : List Int) : ∃ ex, fnd a cls = a.start :: ex := by
  obtain ⟨ex, h⟩ := numL_pre (cl := cfun cls) (nx := nnx a (liveF a)) (a.n + 1) 0 [a.start]
  exact ⟨ex, h⟩
theorem fnd_run (h : Cong a cls) (hf : a.Fits) (hl : (liveF a)[a.start.toNat]?.getD false = true) :
    numC a cls (liveF a) = ((fnd a cls).map (nac a), (fnd a cls).map (numRow (cfun cls) (nnx a (liveF a)) (fnd a cls))) ∧ ∀ s ∈ fnd a cls, Has (cfun cls) (nnx a (liveF a)) (fnd a cls) s 9 := by
  have := numRunC_at (ac := nac a) (h.good hf) (a.n + 1) 0 [a.start] [] [] ⟨fun x hx => by simp at hx; subst hx; exact start_gs hf hl, by simp⟩ (by omega) (by simp)
  simpa [fnd, numC] using this
/-- the automaton that comes out -/
theorem numAut_eq (h : Cong a cls) (hf : a.Fits) (hl : (liveF a)[a.start.toNat]?.getD false = true) :
    numAut a cls (liveF a) = ⟨0, (fnd a cls).map (nac a), (fnd a cls).map (numRow (cfun cls) (nnx a (liveF a)) (fnd a cls))⟩ := by
  unfold numAut
  rw [if_pos hl, (fnd_run h hf hl).1]
theorem numAut_n (h : Cong a cls) (hf : a.Fits) (hl : (liveF a)[a.start.toNat]?.getD false = true) : (numAut a cls (liveF a)).n = (fnd a cls).length := by
  rw [numAut_eq h hf hl]; simp [Aut.n]
theorem fnd_le (h : Cong a cls) (hf : a.Fits) (hl : (liveF a)[a.start.toNat]?.getD false = true) : (fnd a cls).length ≤ a.n := by
  have hg := fnd_good h hf hl
  exact (h.good hf).le _ hg.g hg.nd
theorem numAut_nx (h : Cong a cls) (hf : a.Fits) (hl : (liveF a)[a.start.toNat]?.getD false = true) {i k : Nat} (hi : i < (fnd a cls).length) (hk : k < 9) :
    (numAut a cls (liveF a)).nx i k = numAt (cfun cls) (nnx a (liveF a)) (fnd a cls) (fnd a cls)[i] k := by
  rw [numAut_eq h hf hl]
  have e : ((fnd a cls).map (numRow (cfun cls) (nnx a (liveF a)) (fnd a cls)))[i]?.getD [] = numRow (cfun cls) (nnx a (liveF a)) (fnd a cls) (fnd a cls)[i] := by
    rw [getD_some (by simpa using hi), List.getElem_map]
  unfold Aut.nx
  simp only [e]
  unfold numRow
  rw [getD_some (by simpa using hk)]
  simp
theorem numAt_rng (h : Cong a cls) (hf : a.Fits) (hl : (liveF a)[a.start.toNat]?.getD false = true) {s : Int} {k : Nat} : -1 ≤ numAt (cfun cls) (nnx a (liveF a)) (fnd a cls) s k ∧ numAt (cfun cls) (nnx a (liveF a)) (fnd a cls) s k < (fnd a cls).length := by
  unfold numAt
  split
  · obtain ⟨ex, he⟩ := fnd_start a cls
    rw [he]; simp; omega
  · have := findI_range (cfun cls ‹Int›) ((fnd a cls).map (cfun cls)) 0
    obtain ⟨ex, he⟩ := fnd_start a cls
    simp at this
    rcases this with h1 | h1
    · rw [h1]; constructor
      · omega
      · rw [he]; simp; omega
    · omega
theorem numAut_fits (h : Cong a cls) (hf : a.Fits) (hl : (liveF a)[a.start.toNat]?.getD false = true) : (numAut a cls (liveF a)).Fits := by
  have hn := numAut_n h hf hl
  obtain ⟨ex, he⟩ := fnd_start a cls
  refine ⟨?_, ?_, ?_, fun s hs => ⟨?_, fun k hk => ?_⟩⟩
  · rw [numAut_eq h hf hl]; exact Int.le_refl 0
  · rw [hn]; rw [numAut_eq h hf hl]; show (0 : Int) < _; rw [he]; simp
  · rw [hn]; rw [numAut_eq h hf hl]; simp
  · rw [hn] at hs
    rw [numAut_eq h hf hl]
    simp only
    rw [getD_some (by simpa using hs), List.getElem_map]
    simp [numRow]
  · rw [hn] at hs ⊢
    rw [numAut_nx h hf hl hs hk]
    exact numAt_rng h hf hl
theorem nothing_fits : nothingAut.Fits := by
  refine ⟨by decide, by decide, rfl, fun s hs => ?_⟩
  obtain rfl : s = 0 := by have : nothingAut.n = 1 := rfl; omega
  refine ⟨rfl, fun k hk => ?_⟩
  have hall : ∀ k, k < 9 → nothingAut.nx 0 k = -1 := by decide
  rw [hall k hk]
  exact ⟨by decide, by decide⟩

/-- state s of a and state i of what comes out -/
def QL (a : Aut) (cls : List Int) (s i : Int) : Prop :=
  (∃ j : Nat, i = j ∧ ∃ h : j < (fnd a cls).length, GS a s ∧ cfun cls s = cfun cls (fnd a cls)[j]) ∨ (i = -1 ∧ -1 ≤ s ∧ s < a.n ∧ ¬ (0 ≤ s ∧ (liveF a)[s.toNat]?.getD false = true))
theorem live_acc (hf : a.Fits) {s : Nat} (hs : s < a.n) (h : a.acc[s]?.getD false = true) : (liveF a)[s]?.getD false = true := ((liveF_ok hf).2 s hs).2 (.acc hs h)
theorem live_step (hf : a.Fits) {s k : Nat} (hs : s < a.n) (hk : k < 9) (h0 : 0 ≤ a.nx s k) (h : (liveF a)[(a.nx s k).toNat]?.getD false = true) : (liveF a)[s]?.getD false = true := by
  have h1 := (hf.2.2.2 s hs).2 k hk
  exact ((liveF_ok hf).2 s hs).2 (.step hs hk h0 (((liveF_ok hf).2 _ (by omega)).1 h))
theorem dead_acc (hf : a.Fits) {s : Int} (h1 : s < a.n) (hd : ¬ (0 ≤ s ∧ (liveF a)[s.toNat]?.getD false = true)) : acB a s = false := by
  unfold acB
  by_cases h0 : 0 ≤ s
  · cases hc : a.acc[s.toNat]?.getD false with
    | false => simp
    | true => exact absurd ⟨h0, live_acc hf (by omega) hc⟩ hd
  · simp [h0]
theorem dead_step (hf : a.Fits) {s : Int} {k : Nat} (h1 : s < a.n) (hk : k < 9) (hd : ¬ (0 ≤ s ∧ (liveF a)[s.toNat]?.getD false = true)) :
    -1 ≤ nxI a s k ∧ nxI a s k < a.n ∧ ¬ (0 ≤ nxI a s k ∧ (liveF a)[(nxI a s k).toNat]?.getD false = true) := by
  unfold nxI
  have hp := hf.pos
  by_cases h0 : s < 0
  · rw [if_pos h0]; omega
  · rw [if_neg h0]
    have h2 := fits_nx hf (by omega : 0 ≤ s) h1 hk
    refine ⟨h2.1, h2.2, fun hh => hd ⟨by omega, live_step hf (by omega) hk hh.1 hh.2⟩⟩
theorem findI_at {x : Int} {l : List Int} (h : x ∈ l) : ∃ j : Nat, findI x l 0 = j ∧ ∃ hj : j < l.length, l[j] = x := by
  have h0 := (findI_mem x l 0).2 h
  have h1 := findI_get x l 0 h0
  obtain ⟨hj, he⟩ := List.getElem?_eq_some_iff.1 h1
  exact ⟨(findI x l 0).toNat, by omega, by simpa using hj, by simpa using he⟩
theorem bis_num (h : Cong a cls) (hf : a.Fits) (hl : (liveF a)[a.start.toNat]?.getD false = true) : Bis a (numAut a cls (liveF a)) (QL a cls) := by
  have hn := numAut_n h hf hl
  have hg := fnd_good h hf hl
  have hp := hf.pos
  refine ⟨fun s i hq => ?_, fun s i hq => ?_, fun s i k hq hk => ?_⟩
  · rw [hn]
    rcases hq with ⟨j, rfl, hj, hs, _⟩ | ⟨rfl, h1, h2, _⟩
    · have := hs.1; have := hs.2.1; omega
    · omega
  · rcases hq with ⟨j, rfl, hj, hs, hc⟩ | ⟨rfl, h1, h2, hd⟩
    · have e1 : acB a s = nac a s := by unfold acB nac; simp [hs.1]
      have e2 : acB (numAut a cls (liveF a)) (j : Int) = nac a (fnd a cls)[j] := by
        rw [numAut_eq h hf hl]
        unfold acB
        simp only [Int.natCast_nonneg, decide_true, Bool.true_and, Int.toNat_natCast]
        rw [getD_some (by simpa using hj), List.getElem_map]
      rw [e1, e2]
      exact h.ac _ _ hs (hg.g _ (List.getElem_mem _)) hc
    · rw [dead_acc hf h2 hd]; rfl
  · rcases hq with ⟨j, rfl, hj, hs, hc⟩ | ⟨rfl, h1, h2, hd⟩
    · have hgj := hg.g _ (List.getElem_mem hj)
      have ho := h.nx s _ k hs hgj hc hk
      have e1 : nxI a s k = a.nx s.toNat k := by unfold nxI; rw [if_neg (by have := hs.1; omega)]
      have e2 : nxI (numAut a cls (liveF a)) (j : Int) k = numAt (cfun cls) (nnx a (liveF a)) (fnd a cls) (fnd a cls)[j] k := by
        unfold nxI; rw [if_neg (by omega)]; simp only [Int.toNat_natCast]; exact numAut_nx h hf hl hj hk
      rw [e1, e2]
      unfold numAt
      revert ho
      cases hx : nnx a (liveF a) s k with
      | none =>
        cases hy : nnx a (liveF a) (fnd a cls)[j] k with
        | none =>
          intro _
          have := fits_nx hf hs.1 hs.2.1 hk
          exact .inr ⟨rfl, this.1, this.2, nnx_none hx⟩
        | some y => intro ho; exact ho.elim
      | some x =>
        cases hy : nnx a (liveF a) (fnd a cls)[j] k with
        | none => intro ho; exact ho.elim
        | some y =>
          intro ho
          have hm : cfun cls y ∈ (fnd a cls).map (cfun cls) := (fnd_run h hf hl).2 _ (List.getElem_mem hj) k y hk hy
          obtain ⟨m, hm1, hm2, hm3⟩ := findI_at hm
          simp only
          rw [hm1, (nnx_some hx).2.2]
          refine .inl ⟨m, rfl, by simpa using hm2, nnx_gs hf hs hk hx, ?_⟩
          have : cfun cls x = cfun cls y := ho
          rw [this, ← hm3]; simp
    · exact .inr ⟨rfl, dead_step hf h2 hk hd⟩
/-- nothing is accepted where the start is dead -/
def QN (a : Aut) (s i : Int) : Prop := (i = 0 ∨ i = -1) ∧ -1 ≤ s ∧ s < a.n ∧ ¬ (0 ≤ s ∧ (liveF a)[s.toNat]?.getD false = true)
theorem bis_nothing (hf : a.Fits) : Bis a nothingAut (QN a) := by
  refine ⟨fun s i hq => ?_, fun s i hq => ?_, fun s i k hq hk => ?_⟩
  · have : nothingAut.n = 1 := rfl
    rcases hq.1 with rfl | rfl <;> (have := hq.2.1; have := hq.2.2.1; omega)
  · rw [dead_acc hf hq.2.2.1 hq.2.2.2]
    rcases hq.1 with rfl | rfl <;> rfl
  · refine ⟨?_, dead_step hf hq.2.2.1 hk hq.2.2.2⟩
    right
    have hall : ∀ k, k < 9 → nothingAut.nx 0 k = -1 := by decide
    rcases hq.1 with rfl | rfl
    · exact hall k hk
    · rfl
theorem numAut_dead (hl : ¬ (liveF a)[a.start.toNat]?.getD false = true) : numAut a cls (liveF a) = nothingAut := by unfold numAut; rw [if_neg hl]
/-- some relation, in whichever case -/
theorem num_bis (h : Cong a cls) (hf : a.Fits) : ∃ Q : Int → Int → Prop, Bis a (numAut a cls (liveF a)) Q ∧ Q a.start (numAut a cls (liveF a)).start ∧ Q (-1) (-1) := by
  have hp := hf.pos
  by_cases hl : (liveF a)[a.start.toNat]?.getD false = true
  · refine ⟨QL a cls, bis_num h hf hl, ?_, .inr ⟨rfl, by omega, by omega, by omega⟩⟩
    rw [numAut_eq h hf hl]
    obtain ⟨ex, he⟩ := fnd_start a cls
    refine .inl ⟨0, rfl, by rw [he]; simp, start_gs hf hl, ?_⟩
    simp [he]
  · rw [numAut_dead hl]
    exact ⟨QN a, bis_nothing hf, ⟨.inl rfl, by have := hf.1; omega, hf.2.1, fun hh => hl hh.2⟩, .inr rfl, by omega, by omega, by omega⟩
theorem num_fits (h : Cong a cls) (hf : a.Fits) : (numAut a cls (liveF a)).Fits ∧ (numAut a cls (liveF a)).n ≤ a.n := by
  have hp := hf.pos
  by_cases hl : (liveF a)[a.start.toNat]?.getD false = true
  · exact ⟨numAut_fits h hf hl, by rw [numAut_n h hf hl]; exact fnd_le h hf hl⟩
  · rw [numAut_dead hl]
    exact ⟨nothing_fits, by have : nothingAut.n = 1 := rfl; omega⟩
end
/-- related states accept the same words -/
theorem Bis.run {a b : Aut} {Q : Int → Int → Prop} (h : Bis a b Q) (h0 : Q (-1) (-1)) : ∀ (ws : List Int) (s i : Int), Q s i → Q (runI a s ws) (runI b i ws)
  | [], s, i, hq => hq
  | k :: ws, s, i, hq => by
    show Q (runI a (mvI a s k) ws) (runI b (mvI b i k) ws)
    refine Bis.run h h0 ws _ _ ?_
    have hlo := h.lo _ _ hq
    by_cases hk : isL k = true
    · have hk9 := isL_iff.1 hk
      have := h.nx s i k.toNat hq (by omega)
      have e : ∀ (c : Aut) (x : Int), -1 ≤ x → mvI c x k = nxI c x k.toNat := fun c x hx => by
        unfold mvI nxI
        by_cases h0 : x < 0
        · rw [if_neg (by omega), if_pos h0]
        · rw [if_pos ⟨by omega, hk⟩, if_neg h0]
      rw [e a s hlo.1, e b i hlo.2.2.1]
      exact this
    · have e : ∀ (c : Aut) (x : Int), mvI c x k = -1 := fun c x => by unfold mvI; rw [if_neg (fun hh => hk hh.2)]
      rw [e, e]; exact h0
theorem Bis.lang {a b : Aut} {Q : Int → Int → Prop} (h : Bis a b Q) (h0 : Q (-1) (-1)) (hs : Q a.start b.start) (ha : validB a = true) (hb : validB b = true) (ws : List Int) : accWB b ws = accWB a ws := by
  unfold accWB runWB
  rw [if_pos ha, if_pos hb]
  exact (h.acc _ _ (h.run h0 ws _ _ hs)).symm
end Go.Proofs.YtmnhpbbapkcdjaaGreat

/- Walks: equal automata. -/
namespace Go.Proofs.YtmnhpbbapkcdjaaGreat
open Go.RowKit

def eqA (a b : Aut) : Bool := decide (a.start = b.start) && (decide (a.acc = b.acc) && decide (a.next = b.next))
theorem eqA_iff {a b : Aut} : eqA a b = true ↔ a = b := by
  cases a; cases b; simp [eqA]
theorem implEqAut_any (a b : Aut) (v u : Value) (w : World) (p q : Nat → Prop) (ha : AutV w p v a) (hb : AutV w q u b) :
    Calls Tryz.prog 47 #[v, u] w fun e w' => e = .returned (.bool (eqA a b)) ∧ Below w.heap.size w w' := by
  obtain ⟨A1, n1, c1, A2, n2, c2, rfl, a1, a2⟩ := ha
  obtain ⟨B1, m1, d1, B2, m2, d2, rfl, b1, b2⟩ := hb
  have a1 := (a1.alloc (.cells #[.int .i64 a.start, .slice A1 n1 c1, .slice A2 n2 c2] 31)).alloc (.cells #[.int .i64 b.start, .slice B1 m1 d1, .slice B2 m2 d2] 31)
  have a2 := (a2.alloc (.cells #[.int .i64 a.start, .slice A1 n1 c1, .slice A2 n2 c2] 31)).alloc (.cells #[.int .i64 b.start, .slice B1 m1 d1, .slice B2 m2 d2] 31)
  have b1 := (b1.alloc (.cells #[.int .i64 a.start, .slice A1 n1 c1, .slice A2 n2 c2] 31)).alloc (.cells #[.int .i64 b.start, .slice B1 m1 d1, .slice B2 m2 d2] 31)
  have b2 := (b2.alloc (.cells #[.int .i64 a.start, .slice A1 n1 c1, .slice A2 n2 c2] 31)).alloc (.cells #[.int .i64 b.start, .slice B1 m1 d1, .slice B2 m2 d2] 31)
  have hw := below_alloc2 w (.cells #[.int .i64 a.start, .slice A1 n1 c1, .slice A2 n2 c2] 31) (.cells #[.int .i64 b.start, .slice B1 m1 d1, .slice B2 m2 d2] 31)
  by_cases hs : a.start = b.start
  · have hs' : (a.start == b.start) = true := by simpa using hs
    cases h1 : decide (a.acc = b.acc) with
    | false =>
      have He : Hid (eqA a b = false) := Lib.hid (by simp [eqA, h1])
      clear hs
      go_enter Tryz.func47, Tryz.ntmps47
      go_wp2_with (go_at_call 75; refine (eqBools_any A1 B1 n1 c1 m1 d1 _ _ _ p q a1 b1).mono ?_; rintro e w1 ⟨rfl, hd⟩)
      go_ret
      exact ⟨by rw [He.out]; rfl, hw.trans (hd.below _)⟩
    | true =>
      have He : Hid (eqA a b = decide (a.next = b.next)) := Lib.hid (by simp [eqA, h1, hs])
      clear hs
      go_enter Tryz.func47, Tryz.ntmps47
      go_wp2_with fail
      refine (eqBools_any A1 B1 n1 c1 m1 d1 _ _ _ p q a1 b1).mono ?_; rintro e w1 ⟨rfl, hd⟩
      obtain ⟨d, rfl⟩ := hd
      go_wp2_with (go_at_call 76; refine (eqRows_any A2 B2 n2 c2 m2 d2 _ _ _ p q (by exact a2) (by exact b2)).mono ?_; rintro e w2 ⟨rfl, hd2⟩)
      go_ret
      exact ⟨by rw [He.out]; rfl, (hw.trans (Drew.below (Drew.mk _ d) _)).trans (hd2.below _)⟩
  · have hs' : (a.start == b.start) = false := by simpa using hs
    have He : Hid (eqA a b = false) := Lib.hid (by simp [eqA, hs])
    clear hs
    go_enter Tryz.func47, Tryz.ntmps47
    go_wp2
    go_ret
    exact ⟨by rw [He.out]; rfl, hw⟩

set_option maxRecDepth 100000 in
theorem specEqAut_any (a b : Aut) (v u : Value) (w : World) (p q : Nat → Prop) (ha : AutV w p v a) (hb : AutV w q u b) :
    Calls Tryz.prog 8 #[v, u] w fun e w' => e = .returned (.bool (eqA a b)) ∧ Below w.heap.size w w' := by
  obtain ⟨A1, n1, c1, A2, n2, c2, rfl, a1, a2⟩ := ha
  obtain ⟨B1, m1, d1, B2, m2, d2, rfl, b1, b2⟩ := hb
  have a1 := (a1.alloc (.cells #[.int .i64 a.start, .slice A1 n1 c1, .slice A2 n2 c2] 31)).alloc (.cells #[.int .i64 b.start, .slice B1 m1 d1, .slice B2 m2 d2] 31)
  have a2 := (a2.alloc (.cells #[.int .i64 a.start, .slice A1 n1 c1, .slice A2 n2 c2] 31)).alloc (.cells #[.int .i64 b.start, .slice B1 m1 d1, .slice B2 m2 d2] 31)
  have b1 := (b1.alloc (.cells #[.int .i64 a.start, .slice A1 n1 c1, .slice A2 n2 c2] 31)).alloc (.cells #[.int .i64 b.start, .slice B1 m1 d1, .slice B2 m2 d2] 31)
  have b2 := (b2.alloc (.cells #[.int .i64 a.start, .slice A1 n1 c1, .slice A2 n2 c2] 31)).alloc (.cells #[.int .i64 b.start, .slice B1 m1 d1, .slice B2 m2 d2] 31)
  have hw := below_alloc2 w (.cells #[.int .i64 a.start, .slice A1 n1 c1, .slice A2 n2 c2] 31) (.cells #[.int .i64 b.start, .slice B1 m1 d1, .slice B2 m2 d2] 31)
  have L1 := Lib.hid a1.lenb; have L2 := Lib.hid a2.len; have L3 := Lib.hid b1.lenb; have L4 := Lib.hid b2.len
  have hm1 : n1 ≤ 9223372036854775807 := by have := a1.2.1; unfold maxLen at this; omega
  have hm2 : n2 ≤ 9223372036854775807 := by have := a2.le; unfold maxLen at this; omega
  have He : Hid (a ≠ b → eqA a b = false) := Lib.hid (fun h => by rw [← Bool.not_eq_true, eqA_iff]; exact h)
  by_cases hs : a.start = b.start
  · have hs' : (a.start != b.start) = false := by simpa using hs
    by_cases h1 : n1 = m1
    · subst h1
      by_cases h2 : n2 = m2
      · subst h2
        have Hs := Lib.hid hs; clear hs
        go_enter Tryz.func8, Tryz.ntmps8
        go_wp2_with fail
        go_loopw [5] (fun i wr => ∃ (k d : Nat), k ≤ n1 ∧ i = .int .i64 k ∧ (∀ j, j < k → a.acc[j]?.getD false = b.acc[j]?.getD false) ∧ wr = ((w.alloc (.cells #[.int .i64 a.start, .slice A1 n1 c1, .slice A2 n2 c2] 31)).alloc (.cells #[.int .i64 b.start, .slice B1 n1 d1, .slice B2 n2 d2] 31)).drewN d) (fun i _ => n1 - (intOf i).toNat)
        case atStart => exact ⟨0, 0, Nat.zero_le _, rfl, fun j h => absurd h (by omega), rfl⟩
        case round =>
          obtain ⟨k, d, hk, rfl, hr, rfl⟩ := hrel
          have Hr := Lib.hid hr; clear hr
          by_cases h1 : k < n1
          · obtain ⟨bb1, o1, rfl, _, _, hc1⟩ := a1.bool_at h1
            obtain ⟨bb2, o2, rfl, _, _, hc2⟩ := b1.bool_at h1
            have i1 : (k : Int) < (n1 : Int) := by omega
            by_cases hxy : a.acc[k]?.getD false = b.acc[k]?.getD false
            · have Hs := Lib.hid (lt_succ_all Hr.out hxy)
              generalize a.acc[k]?.getD false = x at *
              generalize b.acc[k]?.getD false = y at *
              subst hxy
              go_wp2_with fail
              go_quiet (fail)
              go_wp2
              go_roundw
              case rel => exact ⟨k + 1, _, by omega, by go_num, Hs.out, by (try simp only [World.drewN_drewN]); rfl⟩
              case measure => simp [intOf]; omega
            · have Hn := Lib.hid (He.out (fun h => hxy (by rw [h])))
              generalize a.acc[k]?.getD false = x at *
              generalize b.acc[k]?.getD false = y at *
              cases x <;> cases y <;> first | exact absurd rfl hxy | clear hxy
              all_goals
                go_wp2_with fail
                go_quiet (fail)
                go_wp2
                go_ret
                exact ⟨ret_bool Hn.out.symm, by (try simp only [World.drewN_drewN]); exact hw.trans (Drew.below (Drew.mk _ _) _)⟩
          · obtain rfl : n1 = k := by omega
            go_wp2_with fail
            go_loopw [6] (fun i wr => ∃ (k : Nat), k ≤ n2 ∧ i = .int .i64 k ∧ (∀ j, j < k → a.next[j]?.getD [] = b.next[j]?.getD []) ∧ Drew ((w.alloc (.cells #[.int .i64 a.start, .slice A1 n1 c1, .slice A2 n2 c2] 31)).alloc (.cells #[.int .i64 b.start, .slice B1 n1 d1, .slice B2 n2 d2] 31)) wr) (fun i _ => n2 - (intOf i).toNat)
            case atStart => exact ⟨0, Nat.zero_le _, rfl, fun j h => absurd h (by omega), Drew.mk _ _⟩
            case round =>
              obtain ⟨k, hk, rfl, hr2, dd, rfl⟩ := hrel
              have Hr2 := Lib.hid hr2; clear hr2
              by_cases h2 : k < n2
              · obtain ⟨bb1, o1, A3, m3, c3, rfl, _, _, hc1, hm3, hr1⟩ := a2.row_at h2
                obtain ⟨bb2, o2, A4, m4, c4, rfl, _, _, hc2, hm4, hr4⟩ := b2.row_at h2
                clear hm3 hm4
                have i1 : (k : Int) < (n2 : Int) := by omega
                have Hs := Lib.hid (lt_succ_all (P := fun j => a.next[j]?.getD [] = b.next[j]?.getD []) Hr2.out)
                have Hn : Hid (a.next[k]?.getD [] ≠ b.next[k]?.getD [] → eqA a b = false) := Lib.hid (fun hxy => He.out (fun h => hxy (by rw [h])))
                by_cases hxy : cmpI (a.next[k]?.getD []) (b.next[k]?.getD []) = 0
                · have Hs2 := Lib.hid (Hs.out ((cmpI_zero _ _).1 hxy))
                  have ht : (cmpI (a.next[k]?.getD []) (b.next[k]?.getD []) != 0) = false := by simpa using hxy
                  clear hxy
                  go_wp2_with fail
                  go_quiet ((go_at_call 31; first | exact quietD1 (l2Cmp_any A3 A4 m3 c3 m4 c4 _ _ _ p q (by exact hr1) (by exact hr4)) | exact quietD2 (l2Cmp_any A3 A4 m3 c3 m4 c4 _ _ _ p q (by exact hr1) (by exact hr4))))
                  go_wp2
                  go_roundw
                  case rel => exact ⟨k + 1, by omega, by go_num, Hs2.out, by (try simp only [World.drewN_drewN]); exact Drew.mk _ _⟩
                  case measure => simp [intOf]; omega
                · have Hn2 := Lib.hid (Hn.out (fun h => hxy ((cmpI_zero _ _).2 h)))
                  have ht : (cmpI (a.next[k]?.getD []) (b.next[k]?.getD []) != 0) = true := by simpa using hxy
                  clear hxy
                  go_wp2_with fail
                  go_quiet ((go_at_call 31; first | exact quietD1 (l2Cmp_any A3 A4 m3 c3 m4 c4 _ _ _ p q (by exact hr1) (by exact hr4)) | exact quietD2 (l2Cmp_any A3 A4 m3 c3 m4 c4 _ _ _ p q (by exact hr1) (by exact hr4))))
                  go_wp2
                  go_ret
                  exact ⟨ret_bool Hn2.out.symm, by (try simp only [World.drewN_drewN]); exact hw.trans (Drew.below (Drew.mk _ _) _)⟩
              · obtain rfl : k = n2 := by omega
                have Hq : Hid (eqA a b = true) := Lib.hid (by simp [eqA, Hs.out, list_eq_getD false L1.out L3.out Hr.out, list_eq_getD [] L2.out L4.out Hr2.out])
                go_wp2
                go_ret
                exact ⟨ret_bool Hq.out.symm, hw.trans (Drew.below (Drew.mk _ _) _)⟩
      · have Hq : Hid (eqA a b = false) := Lib.hid (He.out (fun h => h2 (by rw [← L2.out, ← L4.out, h])))
        clear hs
        go_enter Tryz.func8, Tryz.ntmps8
        go_wp2
        go_ret
        exact ⟨ret_bool Hq.out.symm, hw⟩
    · have Hq : Hid (eqA a b = false) := Lib.hid (He.out (fun h => h1 (by rw [← L1.out, ← L3.out, h])))
      clear hs
      go_enter Tryz.func8, Tryz.ntmps8
      go_wp2
      go_ret
      exact ⟨ret_bool Hq.out.symm, hw⟩
  · have hs' : (a.start != b.start) = true := by simpa using hs
    have Hq : Hid (eqA a b = false) := Lib.hid (He.out (fun h => hs (by rw [h])))
    clear hs
    go_enter Tryz.func8, Tryz.ntmps8
    go_wp2
    go_ret
    exact ⟨ret_bool Hq.out.symm, hw⟩
end Go.Proofs.YtmnhpbbapkcdjaaGreat

/- Walks: whether an automaton is minimal, the implementation. -/
namespace Go.Proofs.YtmnhpbbapkcdjaaGreat
open Go.RowKit

noncomputable def isMinB (a : Aut) : Bool := validB a && eqA a (minI a)
set_option maxRecDepth 100000 in
theorem isMin_any (a : Aut) (v : Value) (w : World) (p : Nat → Prop) (h : AutV w p v a) :
    Calls Tryz.prog 22 #[v] w fun e w' => e = .returned (.bool (isMinB a)) ∧ Below w.heap.size w w' := by
  obtain ⟨A1, n1, c1, A2, n2, c2, rfl, _, _⟩ := id h
  have hP := (h.alloc (.cells #[.int .i64 a.start, .slice A1 n1 c1, .slice A2 n2 c2] 31)).drew
  have hB := Blk.new w 31 #[.int .i64 a.start, .slice A1 n1 c1, .slice A2 n2 c2]
  have f0 : (w.alloc (.cells #[.int .i64 a.start, .slice A1 n1 c1, .slice A2 n2 c2] 31)).cell? ⟨w.heap.size, 0, none⟩ = some (.int .i64 a.start) := hB.cell 0
  have f1 : (w.alloc (.cells #[.int .i64 a.start, .slice A1 n1 c1, .slice A2 n2 c2] 31)).cell? ⟨w.heap.size, 1, none⟩ = some (.slice A1 n1 c1) := hB.cell 1
  have f2 : (w.alloc (.cells #[.int .i64 a.start, .slice A1 n1 c1, .slice A2 n2 c2] 31)).cell? ⟨w.heap.size, 2, none⟩ = some (.slice A2 n2 c2) := hB.cell 2
  have hW : Below w.heap.size w (w.alloc (.cells #[.int .i64 a.start, .slice A1 n1 c1, .slice A2 n2 c2] 31)).drew := (below_alloc w (.cells #[.int .i64 a.start, .slice A1 n1 c1, .slice A2 n2 c2] 31)).drew
  have hlt : w.heap.size < (w.alloc (.cells #[.int .i64 a.start, .slice A1 n1 c1, .slice A2 n2 c2] 31)).drew.heap.size := hB.lt
  have hv := implValid_any a _ _ p hP
  cases hV : validB a with
  | false =>
    have HE : Hid (isMinB a = false) := Lib.hid (by unfold isMinB; rw [hV]; rfl)
    rw [hV] at hv; clear hV
    go_enter Tryz.func22, Tryz.ntmps22
    go_wp2_with fail
    go_region_with (go_at_call 38; refine hv.mono ?_; rintro e w3 ⟨rfl, hb3⟩)
    all_goals
      go_wp2
      go_ret
      exact ⟨by rw [HE.out]; rfl, hW.trans (hb3.mono (by omega))⟩
  | true =>
    have HE : Hid (isMinB a = eqA a (minI a)) := Lib.hid (by unfold isMinB; rw [hV]; rfl)
    have hok := validB_iff.1 hV
    rw [hV] at hv; clear hV
    go_enter Tryz.func22, Tryz.ntmps22
    go_wp2_with fail
    go_region_held3 (fun w' => w'.cell? ⟨w.heap.size, 0, none⟩ = some (.int .i64 a.start) ∧ w'.cell? ⟨w.heap.size, 1, none⟩ = some (.slice A1 n1 c1) ∧ w'.cell? ⟨w.heap.size, 2, none⟩ = some (.slice A2 n2 c2))
      (first | go_keep | exact ⟨d0, d1, d2⟩ | exact ⟨d3, d4, d5⟩ | exact ⟨d6, d7, d8⟩)
      (first
        | (go_at_call 38; refine hv.mono ?_; rintro e w3 ⟨rfl, hb3⟩; have d0 := (hb3.cell (p := ⟨w.heap.size, 0, none⟩) hlt).trans f0; have d1 := (hb3.cell (p := ⟨w.heap.size, 1, none⟩) hlt).trans f1; have d2 := (hb3.cell (p := ⟨w.heap.size, 2, none⟩) hlt).trans f2; have hP3 := hP.below hb3; have hl3 := Nat.lt_of_lt_of_le hlt hb3.size)
        | (go_at_call 40; refine (minimize_any a _ _ p hP3 hok.2 (by omega)).mono ?_; rintro e w4 ⟨v4, rfl, hA4, hb4⟩; have d3 := (hb4.cell (p := ⟨w.heap.size, 0, none⟩) hl3).trans d0; have d4 := (hb4.cell (p := ⟨w.heap.size, 1, none⟩) hl3).trans d1; have d5 := (hb4.cell (p := ⟨w.heap.size, 2, none⟩) hl3).trans d2; have hP4 := hP3.below hb4; have hl4 := Nat.lt_of_lt_of_le hl3 hb4.size)
        | (go_at_call 47; refine (implEqAut_any a (minI a) _ _ _ p _ hP4 hA4).mono ?_; rintro e w5 ⟨rfl, hb5⟩; have d6 := (hb5.cell (p := ⟨w.heap.size, 0, none⟩) hl4).trans d3; have d7 := (hb5.cell (p := ⟨w.heap.size, 1, none⟩) hl4).trans d4; have d8 := (hb5.cell (p := ⟨w.heap.size, 2, none⟩) hl4).trans d5))
    go_wp2
    go_ret
    exact ⟨by rw [HE.out]; rfl, ((hW.trans (hb3.mono (by omega))).trans (hb4.mono (by omega))).trans (hb5.mono (by omega))⟩
end Go.Proofs.YtmnhpbbapkcdjaaGreat

/- Plain law: the classes agree; both sides' numberings are one; what is minimized is minimal. No program in sight. -/
namespace Go.Proofs.YtmnhpbbapkcdjaaGreat

section
variable {a : Aut} {cl : List Int}
theorem findG_pre {α : Type} [DecidableEq α] {x : α} : ∀ (l l' : List α) (k : Nat), x ∈ l → findG x (l ++ l') k = findG x l k
  | [], _, _, h => by simp at h
  | y :: l, l', k, h => by
    simp only [List.cons_append, findG]
    by_cases hy : y = x
    · rw [if_pos hy, if_pos hy]
    · rw [if_neg hy, if_neg hy]
      exact findG_pre l l' (k + 1) (by rcases List.mem_cons.1 h with e | h; exact absurd e.symm hy; exact h)
theorem findG_fresh {α : Type} [DecidableEq α] {x : α} : ∀ (l : List α) (k : Nat), x ∉ l → findG x (l ++ [x]) k = (k : Int) + l.length
  | [], k, _ => by simp [findG]
  | y :: l, k, h => by
    simp only [List.cons_append, findG]
    have hy : ¬ y = x := fun e => h (by simp [e])
    rw [if_neg hy, findG_fresh l (k + 1) (fun hm => h (by simp [hm]))]
    simp; omega
/-- the class of state s: the first place of its key among the keys -/
theorem ref_find {s : Nat} (h0 : ¬ cl[s]?.getD 0 < 0) : ∀ n, s < n → (refTo a cl n).2[s]?.getD 0 = findG (keyC a cl s) (refTo a cl n).1 0 ∧ keyC a cl s ∈ (refTo a cl n).1
  | 0, h => absurd h (by omega)
  | n + 1, h => by
    have hlen := (refTo_len (a := a) (cl := cl) n).1
    rw [refTo_succ]
    by_cases hs : s = n
    · subst hs
      have hat : ∀ v : Int, ((refTo a cl s).2 ++ [v])[s]?.getD 0 = v := fun v => by rw [List.getElem?_append_right (by omega), hlen]; simp
      by_cases hf : findG (keyC a cl s) (refTo a cl s).1 0 < 0
      · rw [refStep_new h0 hf]
        have hn : keyC a cl s ∉ (refTo a cl s).1 := fun hm => by have := (findG_mem (keyC a cl s) (refTo a cl s).1 0).2 hm; omega
        refine ⟨?_, by simp⟩
        simp only
        rw [hat, findG_fresh _ _ hn]; simp
      · rw [refStep_old h0 hf]
        exact ⟨hat _, (findG_mem (keyC a cl s) (refTo a cl s).1 0).1 (by omega)⟩
    · have ih := ref_find h0 n (by omega)
      obtain ⟨v, hv⟩ := refStep_snoc (a := a) (cl := cl) (refTo a cl n) n
      have h2 : (refStep a cl (refTo a cl n) n).2[s]?.getD 0 = (refTo a cl n).2[s]?.getD 0 := by
        rw [hv, List.getElem?_append_left (by omega)]
      rw [h2]
      unfold refStep
      split
      · exact ih
      · split
        · refine ⟨?_, by simp [ih.2]⟩
          simp only
          rw [ih.1, findG_pre _ _ _ ih.2]
        · exact ih
theorem ref_key {s t : Nat} (hs : s < a.n) (ht : t < a.n) (h0 : ¬ cl[s]?.getD 0 < 0) (h1 : ¬ cl[t]?.getD 0 < 0) : (refR a cl).2[s]?.getD 0 = (refR a cl).2[t]?.getD 0 ↔ keyC a cl s = keyC a cl t := by
  have e1 := ref_find (a := a) h0 a.n hs
  have e2 := ref_find (a := a) h1 a.n ht
  unfold refR
  rw [e1.1, e2.1]
  constructor
  · intro e
    have g1 := findG_get0 _ _ ((findG_mem _ _ 0).2 e1.2)
    have g2 := findG_get0 _ _ ((findG_mem _ _ 0).2 e2.2)
    rw [e, g2] at g1
    exact (Option.some.inj g1).symm
  · intro e; rw [e]
theorem key_iff {s t : Nat} : keyC a cl s = keyC a cl t ↔ cl[s]?.getD 0 = cl[t]?.getD 0 ∧ ∀ k, k < 9 → keyV a cl s k = keyV a cl t k := by
  unfold keyC keyTo
  rw [List.cons.injEq]
  refine and_congr_right fun _ => ⟨fun h k hk => ?_, fun h => List.map_congr_left fun k hk => h k (List.mem_range.1 hk)⟩
  have := congrArg (fun l => l[k]?.getD 0) h
  simpa [hk] using this
end
section
variable {a : Aut}
theorem live_cls {m : Nat} {s : Int} (hs : GS a s) : ¬ (clsN a m)[s.toNat]?.getD 0 < 0 := by
  have := (clsN_nonneg (a := a) (s := s.toNat) (by have := hs.1; have := hs.2.1; omega) m).2 hs.2.2
  omega
theorem dead_cls {s : Nat} (hs : s < a.n) (hd : ¬ (liveF a)[s]?.getD false = true) : ∀ m, (clsN a m)[s]?.getD 0 = -1
  | 0 => by
    show (initTo a a.n)[s]?.getD 0 = -1
    unfold initTo
    rw [getD_some (by simpa using hs)]
    simp only [List.getElem_map, List.getElem_range]
    unfold initV
    rw [if_neg hd]
  | m + 1 => by
    have h1 := mt (clsN_nonneg hs (m + 1)).1 hd
    have hlen := clsN_len a (m + 1)
    have hm : (clsN a (m + 1))[s]?.getD 0 ∈ (refTo a (clsN a m) a.n).2 := by
      rw [getD_some (by omega)]
      exact List.getElem_mem _
    have := refTo_rng a.n _ hm
    omega
/-- of one class at stage m + 1: of one class at stage m, and so are the states behind each letter -/
theorem cls_step {m : Nat} {s t : Int} (hs : GS a s) (ht : GS a t) : (clsN a (m + 1))[s.toNat]?.getD 0 = (clsN a (m + 1))[t.toNat]?.getD 0 ↔
    (clsN a m)[s.toNat]?.getD 0 = (clsN a m)[t.toNat]?.getD 0 ∧ ∀ k, k < 9 → keyV a (clsN a m) s.toNat k = keyV a (clsN a m) t.toNat k := by
  rw [clsN_succ, ref_key (by have := hs.1; have := hs.2.1; omega) (by have := ht.1; have := ht.2.1; omega) (live_cls hs) (live_cls ht), key_iff]
theorem cls_acc : ∀ (m : Nat) {s t : Int}, GS a s → GS a t → (clsN a m)[s.toNat]?.getD 0 = (clsN a m)[t.toNat]?.getD 0 → nac a s = nac a t
  | 0, s, t, hs, ht, h => by
    have e : ∀ x : Int, GS a x → (clsN a 0)[x.toNat]?.getD 0 = if nac a x = true then 1 else 0 := fun x hx => by
      show (initTo a a.n)[x.toNat]?.getD 0 = _
      unfold initTo
      rw [getD_some (by have := hx.1; have := hx.2.1; simp; omega)]
      simp only [List.getElem_map, List.getElem_range]
      unfold initV
      rw [if_pos hx.2.2]
      rfl
    rw [e s hs, e t ht] at h
    cases h1 : nac a s <;> cases h2 : nac a t <;> simp [h1, h2] at h ⊢
  | m + 1, s, t, hs, ht, h => cls_acc m hs ht ((cls_step hs ht).1 h).1
theorem keyV_opt (hf : a.Fits) {m : Nat} {s t : Int} {k : Nat} (hs : GS a s) (ht : GS a t) (hk : k < 9) :
    keyV a (clsN a m) s.toNat k = keyV a (clsN a m) t.toNat k ↔ OptR (fun x y => (clsN a m)[x.toNat]?.getD 0 = (clsN a m)[y.toNat]?.getD 0) (nnx a (liveF a) s k) (nnx a (liveF a) t k) := by
  have e : ∀ x : Int, GS a x → (∃ y, nnx a (liveF a) x k = some y ∧ keyV a (clsN a m) x.toNat k = (clsN a m)[y.toNat]?.getD 0 ∧ GS a y) ∨ (nnx a (liveF a) x k = none ∧ keyV a (clsN a m) x.toNat k = -1) := fun x hx => by
    have hr := fits_nx hf hx.1 hx.2.1 hk
    cases hn : nnx a (liveF a) x k with
    | some y =>
      obtain ⟨h1, h2, rfl⟩ := nnx_some hn
      exact .inl ⟨_, rfl, keyV_pos (by omega), nnx_gs hf hx hk hn⟩
    | none =>
      refine .inr ⟨rfl, ?_⟩
      have hd := nnx_none hn
      by_cases h0 : a.nx x.toNat k < 0
      · exact keyV_neg h0
      · rw [keyV_pos h0]
        exact dead_cls (by omega) (fun hh => hd ⟨by omega, hh⟩) m
  rcases e s hs with ⟨x, h1, h2, hx⟩ | ⟨h1, h2⟩ <;> rcases e t ht with ⟨y, h3, h4, hy⟩ | ⟨h3, h4⟩
  · rw [h1, h3, h2, h4]; exact Iff.rfl
  · rw [h1, h3, h2, h4]
    have := live_cls (m := m) hx
    exact ⟨fun e => by omega, fun h => h.elim⟩
  · rw [h1, h3, h2, h4]
    have := live_cls (m := m) hy
    exact ⟨fun e => by omega, fun h => h.elim⟩
  · rw [h1, h3, h2, h4]; exact ⟨fun _ => trivial, fun _ => rfl⟩
theorem clsF_next (a : Aut) : clsN a (a.n + 1 + 1) = clsF a := by rw [clsN_succ]; exact clsF_fix a
/-- THE CLASSES AGREE. -/
theorem cong_cls (hf : a.Fits) : Cong a (clsF a) := by
  refine ⟨fun s hs hl => ⟨(clsF_nonneg hs).2 hl, clsF_at hs⟩, fun s t hs ht h => cls_acc (a.n + 1) hs ht h, fun s t k hs ht h hk => ?_⟩
  have h2 : (clsN a (a.n + 1 + 1))[s.toNat]?.getD 0 = (clsN a (a.n + 1 + 1))[t.toNat]?.getD 0 := by rw [clsF_next]; exact h
  exact (keyV_opt hf hs ht hk).1 (((cls_step hs ht).1 h2).2 k hk)
/-- THEY ARE THE COARSEST that agree. -/
theorem cls_coarse (hf : a.Fits) {R : Int → Int → Prop} (hg : ∀ s t, R s t → GS a s ∧ GS a t) (ha : ∀ s t, R s t → nac a s = nac a t) (hn : ∀ s t k, R s t → k < 9 → OptR R (nnx a (liveF a) s k) (nnx a (liveF a) t k)) :
    ∀ (m : Nat) (s t : Int), R s t → (clsN a m)[s.toNat]?.getD 0 = (clsN a m)[t.toNat]?.getD 0
  | 0, s, t, h => by
    have e : ∀ x : Int, GS a x → (clsN a 0)[x.toNat]?.getD 0 = if nac a x = true then 1 else 0 := fun x hx => by
      show (initTo a a.n)[x.toNat]?.getD 0 = _
      unfold initTo
      rw [getD_some (by have := hx.1; have := hx.2.1; simp; omega)]
      simp only [List.getElem_map, List.getElem_range]
      unfold initV
      rw [if_pos hx.2.2]
      rfl
    rw [e s (hg s t h).1, e t (hg s t h).2, ha s t h]
  | m + 1, s, t, h => by
    obtain ⟨hs, ht⟩ := hg s t h
    refine (cls_step hs ht).2 ⟨cls_coarse hf hg ha hn m s t h, fun k hk => (keyV_opt hf hs ht hk).2 ?_⟩
    have := hn s t k h hk
    revert this
    cases nnx a (liveF a) s k <;> cases nnx a (liveF a) t k
    · exact fun _ => trivial
    · exact fun h => h.elim
    · exact fun h => h.elim
    · exact fun h => cls_coarse hf hg ha hn m _ _ h
theorem iota_cf {s : Int} (hs : GS a s) : cfun (iota a.n) s = s := by
  unfold cfun iota
  rw [getD_some (by have := hs.1; have := hs.2.1; simp; omega)]
  have := hs.1
  simp
  omega
theorem cong_iota (hf : a.Fits) : Cong a (iota a.n) := by
  refine ⟨fun s hs _ => ?_, fun s t hs ht h => ?_, fun s t k hs ht h hk => ?_⟩
  · unfold iota
    rw [getD_some (by simpa using hs)]
    simp
    omega
  · rw [iota_cf hs, iota_cf ht] at h; rw [h]
  · rw [iota_cf hs, iota_cf ht] at h
    rw [h]
    cases nnx a (liveF a) t k with
    | none => trivial
    | some x => exact rfl
end
end Go.Proofs.YtmnhpbbapkcdjaaGreat
