/- Walks: what is drawn for the law; Classes: what refining again changes (plain); Walks: the classes of states, the implementation; Walks: minimization, the implementation. No condition. -/
import Derived.Test.YtmnhpbbapkcdjaaGreatA22

/- Walks: what is drawn for the law. -/
namespace Go.Proofs.YtmnhpbbapkcdjaaGreat
open Go.RowKit

theorem Drawn.belowB {w0 w w' : World} {p : Nat → Prop} {g B : Nat} (hb : Below B w0 w) (hB : B ≤ w.heap.size) (hd : Drawn w w' p g) (hg : B ≤ g) : Below B w0 w' :=
  hb.grown hd.1 hB (fun k e => by injection e with e; omega)
theorem big_any (A : Option Addr) (n c : Nat) (w : World) (hn : n ≤ 9223372036854775807) : Calls Tryz.prog 4 #[.slice A n c] w fun e w' => e = .returned (.bool (decide (1048576 < (n : Int)))) ∧ w = w' := by
  go_enter Tryz.func4, Tryz.ntmps4
  go_wp2
  go_ret
  exact ⟨rfl, rfl⟩
def DPos (w : World) (e : Ending) (w' : World) : Prop := ∃ v a, e = .returned v ∧ PosO w' w.heap.size v a ∧ Below w.heap.size w w'
def DAut (w : World) (e : Ending) (w' : World) : Prop := ∃ v a, e = .returned v ∧ AutO w' w.heap.size v a ∧ Below w.heap.size w w'
def DRun (w : World) (e : Ending) (w' : World) : Prop := ∃ v a A n c ws, e = .returned (.tuple #[v, .slice A n c]) ∧ AutO w' w.heap.size v a ∧ Sl w' (w.heap.size ≤ ·) 1 A n (ints ws) ∧ Below w.heap.size w w'
set_option maxRecDepth 100000 in
set_option maxHeartbeats 1000000 in
theorem drawDet_any (A : Option Addr) (n c : Nat) (xs : List Int) (w : World) (h : Sl w (· < w.heap.size) 1 A n (byts xs)) :
    Calls Tryz.prog 5 #[.slice A n c] w fun e w' => DPos w e w' := by
  have hR := Blk.new w 26 #[.slice none 0 0, .int .i64 0, .int .i64 0, .slice none 0 0, .bool false]
  have hS := h.al (.cells #[.slice none 0 0, .int .i64 0, .int .i64 0, .slice none 0 0, .bool false] 26)
  obtain ⟨W0, hW0⟩ : ∃ W0, W0 = w.alloc (.cells #[.slice none 0 0, .int .i64 0, .int .i64 0, .slice none 0 0, .bool false] 26) := ⟨_, rfl⟩
  have hb0 : Below w.heap.size w W0 := by rw [hW0]; exact below_alloc w _
  have hs0 : w.heap.size + 1 = W0.heap.size := by rw [hW0]; simp
  go_enter Tryz.func5, Tryz.ntmps5
  go_wp2_with fail
  rw [← hW0] at hR hS ⊢
  clear hW0
  refine (l1New_any A n c xs _ _ hS).mono ?_
  rintro e w1 ⟨rfl, hb1, hlt, hC⟩
  have hR1 := hR.below hb1 hR.lt
  go_wp2_with fail
  refine (l10Pos_any W0.heap.size (· < w.heap.size) _ hC (fun b hb => by have hb : b < w.heap.size := hb; omega) hlt).mono ?_
  rintro e w2 ⟨v, a, rfl, hP, hd⟩
  have hR2 := hR1.drawn hd (by omega)
  have hb2 : Below w.heap.size w w2 := Drawn.belowB (hb0.trans (hb1.mono (by omega))) (by omega) hd (by omega)
  obtain ⟨va, vf, rfl, ha, hf, hap⟩ := hP
  obtain ⟨A5, c5, rfl⟩ := own_form ha
  obtain ⟨A6, c6, rfl⟩ := own_form hf
  have z0 := hR2.frozen 0; have z1 := hR2.frozen 1; have z2 := hR2.frozen 2; have z3 := hR2.frozen 3; have z4 := hR2.frozen 4
  have r0 := hR2.cell 0; have r1 := hR2.cell 1; have r2 := hR2.cell 2; have r3 := hR2.cell 3; have r4 := hR2.cell 4
  have l2 := hR2.lt
  simp at r0 r1 r2 r3 r4
  have T := hR2.set5r (v0 := .slice A5 a.n c5) (v1 := .int .i64 a.first) (v2 := .int .i64 a.last) (v3 := .slice A6 a.follow.length c6) (v4 := .bool a.nullable)
  have t0 := T.cell 0; have t1 := T.cell 1; have t2 := T.cell 2; have t3 := T.cell 3; have t4 := T.cell 4
  simp at t0 t1 t2 t3 t4
  go_wp2_with fail
  refine bodyPost_ret (v := .agg #[.slice A5 a.n c5, .int .i64 a.first, .int .i64 a.last, .slice A6 a.follow.length c6, .bool a.nullable]) (by simp [results, Tryz.results5, go_sem, t0, t1, t2, t3, t4]) rfl ?_
  exact ⟨_, a, rfl, ⟨_, _, rfl, own_mono (own_set5 ha hR2 (by decide)) (by omega), own_mono (own_set5 hf hR2 (by decide)) (by omega), hap⟩, below_set5 hb2 (Nat.le_refl _)⟩
set_option maxRecDepth 100000 in
set_option maxHeartbeats 1000000 in
theorem drawTrim_any (A : Option Addr) (n c : Nat) (xs : List Int) (w : World) (h : Sl w (· < w.heap.size) 1 A n (byts xs)) :
    Calls Tryz.prog 13 #[.slice A n c] w fun e w' => DAut w e w' := by
  have hR := Blk.new w 31 #[.int .i64 0, .slice none 0 0, .slice none 0 0]
  have hS := h.al (.cells #[.int .i64 0, .slice none 0 0, .slice none 0 0] 31)
  obtain ⟨W0, hW0⟩ : ∃ W0, W0 = w.alloc (.cells #[.int .i64 0, .slice none 0 0, .slice none 0 0] 31) := ⟨_, rfl⟩
  have hb0 : Below w.heap.size w W0 := by rw [hW0]; exact below_alloc w _
  have hs0 : w.heap.size + 1 = W0.heap.size := by rw [hW0]; simp
  go_enter Tryz.func13, Tryz.ntmps13
  go_wp2_with fail
  rw [← hW0] at hR hS ⊢
  clear hW0
  refine (l1New_any A n c xs _ _ hS).mono ?_
  rintro e w1 ⟨rfl, hb1, hlt, hC⟩
  have hR1 := hR.below hb1 hR.lt
  go_wp2_with fail
  refine (l11Any_any W0.heap.size (· < w.heap.size) _ hC (fun b hb => by have hb : b < w.heap.size := hb; omega) hlt).mono ?_
  rintro e w2 ⟨v, a, rfl, hA, hd⟩
  have hR2 := hR1.drawn hd (by omega)
  have hb2 : Below w.heap.size w w2 := Drawn.belowB (hb0.trans (hb1.mono (by omega))) (by omega) hd (by omega)
  obtain ⟨E1, m1, e1, E2, m2, e2, rfl⟩ := hA.form
  have z0 := hR2.frozen 0; have z1 := hR2.frozen 1; have z2 := hR2.frozen 2
  have r0 := hR2.cell 0; have r1 := hR2.cell 1; have r2 := hR2.cell 2
  have l2 := hR2.lt
  simp at r0 r1 r2
  have T := hR2.set3 (x' := .int .i64 a.start) (y' := .slice E1 m1 e1) (z' := .slice E2 m2 e2)
  have t0 := T.cell 0; have t1 := T.cell 1; have t2 := T.cell 2
  simp at t0 t1 t2
  go_wp2_with fail
  refine bodyPost_ret (v := .agg #[.int .i64 a.start, .slice E1 m1 e1, .slice E2 m2 e2]) (by simp [results, Tryz.results13, go_sem, t0, t1, t2]) rfl ?_
  exact ⟨_, a, rfl, (hA.set3 (by omega)).mono (by omega), below_set (below_set (below_set hb2 (Nat.le_refl _) _ _) (Nat.le_refl _) _ _) (Nat.le_refl _) _ _⟩
set_option maxRecDepth 100000 in
set_option maxHeartbeats 1000000 in
theorem drawRun_any (A : Option Addr) (n c : Nat) (xs : List Int) (w : World) (h : Sl w (· < w.heap.size) 1 A n (byts xs)) :
    Calls Tryz.prog 9 #[.slice A n c] w fun e w' => DRun w e w' := by
  have hR := Blk.new w 31 #[.int .i64 0, .slice none 0 0, .slice none 0 0]
  have hS := h.al (.cells #[.int .i64 0, .slice none 0 0, .slice none 0 0] 31)
  obtain ⟨W0, hW0⟩ : ∃ W0, W0 = w.alloc (.cells #[.int .i64 0, .slice none 0 0, .slice none 0 0] 31) := ⟨_, rfl⟩
  have hb0 : Below w.heap.size w W0 := by rw [hW0]; exact below_alloc w _
  have hs0 : w.heap.size + 1 = W0.heap.size := by rw [hW0]; simp
  go_enter Tryz.func9, Tryz.ntmps9
  go_wp2_with fail
  rw [← hW0] at hR hS ⊢
  clear hW0
  refine (l1New_any A n c xs _ _ hS).mono ?_
  rintro e w1 ⟨rfl, hb1, hlt, hC⟩
  have hR1 := hR.below hb1 hR.lt
  go_wp2_with fail
  refine (l11Any_any W0.heap.size (· < w.heap.size) _ hC (fun b hb => by have hb : b < w.heap.size := hb; omega) hlt).mono ?_
  rintro e w2 ⟨v, a, rfl, hA, hd⟩
  have hR2 := hR1.drawn hd (by omega)
  have hlt2 : W0.heap.size < w2.heap.size := Nat.lt_of_lt_of_le hlt hd.1.size
  obtain ⟨E1, m1, e1, E2, m2, e2, rfl⟩ := hA.form
  go_wp2_with fail
  refine (l11Word_any W0.heap.size (· < w.heap.size) _ hd.2 (fun b hb => by have hb : b < w.heap.size := hb; omega) hlt2).mono ?_
  rintro e w3 ⟨A3, n3, c3, ws, rfl, hW, hd3⟩
  have hA3 := hA.drawn hd3 (by omega)
  have hR3 := hR2.drawn hd3 (by omega)
  have hb3 : Below w.heap.size w w3 := Drawn.belowB (Drawn.belowB (hb0.trans (hb1.mono (by omega))) (by omega) hd (by omega)) (by have := hd.1.size; omega) hd3 (by omega)
  have z0 := hR3.frozen 0; have z1 := hR3.frozen 1; have z2 := hR3.frozen 2
  have r0 := hR3.cell 0; have r1 := hR3.cell 1; have r2 := hR3.cell 2
  have l2 := hR3.lt
  simp at r0 r1 r2
  have T := hR3.set3 (x' := .int .i64 a.start) (y' := .slice E1 m1 e1) (z' := .slice E2 m2 e2)
  have t0 := T.cell 0; have t1 := T.cell 1; have t2 := T.cell 2
  simp at t0 t1 t2
  have hs2 := hd.1.size
  go_wp2_with fail
  refine bodyPost_ret (v := .tuple #[.agg #[.int .i64 a.start, .slice E1 m1 e1, .slice E2 m2 e2], .slice A3 n3 c3]) (by simp [results, Tryz.results9, go_sem, t0, t1, t2]) rfl ?_
  refine ⟨_, a, A3, n3, c3, ws, rfl, (hA3.set3 (by omega)).mono (by omega), ?_, below_set (below_set (below_set hb3 (Nat.le_refl _) _ _) (Nat.le_refl _) _ _) (Nat.le_refl _) _ _⟩
  have hne : ∀ b, w2.heap.size ≤ b → b ≠ w.heap.size := fun b hb => by omega
  exact (((hW.set_ (a := ⟨w.heap.size, 0, none⟩) _ (fun b hb => hne b hb)).set_ (a := ⟨w.heap.size, 1, none⟩) _ (fun b hb => hne b hb)).set_ (a := ⟨w.heap.size, 2, none⟩) _ (fun b hb => hne b hb)).weak (fun b hb _ => by have hb : w2.heap.size ≤ b := hb; show w.heap.size ≤ b; omega)
end Go.Proofs.YtmnhpbbapkcdjaaGreat

/- Classes: what refining again changes (plain). -/
namespace Go.Proofs.YtmnhpbbapkcdjaaGreat

section
variable {a : Aut} {cl : List Int}
theorem refStep_snoc (st : List (List Int) × List Int) (s : Nat) : ∃ v, (refStep a cl st s).2 = st.2 ++ [v] := by
  unfold refStep
  split
  · exact ⟨_, rfl⟩
  · split <;> exact ⟨_, rfl⟩
theorem refTo_pre (s : Nat) : ∀ n, s ≤ n → ∃ ex, (refTo a cl n).2 = (refTo a cl s).2 ++ ex
  | 0, h => by
    obtain rfl : s = 0 := by omega
    exact ⟨[], by simp⟩
  | n + 1, h => by
    by_cases he : s = n + 1
    · subst he; exact ⟨[], by simp⟩
    · obtain ⟨ex, h1⟩ := refTo_pre s n (by omega)
      obtain ⟨v, h2⟩ := refStep_snoc (a := a) (cl := cl) (refTo a cl n) n
      exact ⟨ex ++ [v], by rw [refTo_succ, h2, h1, List.append_assoc]⟩
theorem refTo_at {s n : Nat} {v : Int} (h : s < n) (hv : (refStep a cl (refTo a cl s) s).2 = (refTo a cl s).2 ++ [v]) : (refTo a cl n).2[s]?.getD 0 = v := by
  obtain ⟨ex, h1⟩ := refTo_pre (a := a) (cl := cl) (s + 1) n h
  rw [refTo_succ, hv] at h1
  rw [h1, List.getElem?_append_left (by simp; have := (refTo_len (a := a) (cl := cl) s).1; omega), List.getElem?_append_right (by have := (refTo_len (a := a) (cl := cl) s).1; omega), (refTo_len (a := a) (cl := cl) s).1]
  simp
theorem keyC_head (s : Nat) : (keyC a cl s)[0]?.getD 0 = cl[s]?.getD 0 := by simp [keyC, keyTo]
end

structure Twin (A B : List (List Int) × List Int) : Prop where
  le : A.1.length ≤ B.1.length
  hd : ∀ ky : List Int, ky ∈ B.1 → 0 ≤ (ky[0]?.getD 0 : Int) ∧ (ky[0]?.getD 0 : Int) < (A.1.length : Int)
  eq : A.1.length = B.1.length → B.2 = A.2 ∧ ∀ j, j < B.1.length → (B.1[j]?.getD [])[0]?.getD 0 = (j : Int)

theorem twin (a : Aut) (cl : List Int) : ∀ s, s ≤ a.n → Twin (refTo a cl s) (refTo a (refTo a cl a.n).2 s)
  | 0, _ => ⟨Nat.le_refl _, (fun ky h => by simp [refTo, upto] at h), fun _ => ⟨rfl, fun j hj => by simp [refTo, upto] at hj⟩⟩
  | s + 1, hs => by
    have ih := twin a cl s (by omega)
    have hat := fun v => refTo_at (a := a) (cl := cl) (s := s) (n := a.n) (v := v) (by omega)
    generalize hc1 : (refTo a cl a.n).2 = c1 at *
    rw [refTo_succ, refTo_succ]
    generalize hA : refTo a cl s = A at *
    generalize hB : refTo a c1 s = B at *
    by_cases h0 : cl[s]?.getD 0 < 0
    · have e1 := refStep_neg (a := a) (st := A) h0
      have h1 : c1[s]?.getD 0 = -1 := hat (-1) (by rw [e1])
      have e2 := refStep_neg (a := a) (cl := c1) (st := B) (s := s) (by omega)
      rw [e1, e2]
      exact ⟨ih.le, ih.hd, fun h => ⟨by rw [(ih.eq h).1], (ih.eq h).2⟩⟩
    · by_cases hf : findG (keyC a cl s) A.1 0 < 0
      · have e1 := refStep_new (a := a) (st := A) h0 hf
        have h1 : c1[s]?.getD 0 = (A.1.length : Int) := hat _ (by rw [e1])
        have hk : (keyC a c1 s)[0]?.getD 0 = (A.1.length : Int) := by rw [keyC_head, h1]
        have hnf : findG (keyC a c1 s) B.1 0 < 0 := by
          rcases findG_range (keyC a c1 s) B.1 0 with h | h
          · omega
          · have := ih.hd _ ((findG_mem (keyC a c1 s) B.1 0).1 (by omega))
            omega
        have e2 := refStep_new (a := a) (cl := c1) (st := B) (s := s) (by omega) hnf
        rw [e1, e2]
        refine ⟨by simp; exact ih.le, fun ky hky => ?_, fun h => ?_⟩
        · rcases List.mem_append.1 hky with h | h
          · have := ih.hd ky h; simp; omega
          · simp at h; subst h; rw [hk]; simp; omega
        · have h := ih.eq (by simpa using h)
          have hl : A.1.length = B.1.length := by rename_i h'; simpa using h'
          refine ⟨by rw [h.1, hl], fun j hj => ?_⟩
          by_cases hjl : j < B.1.length
          · show ((B.1 ++ [keyC a c1 s])[j]?.getD [])[0]?.getD 0 = _
            rw [List.getElem?_append_left hjl]; exact h.2 j hjl
          · have : j = B.1.length := by simp at hj; omega
            subst this
            show ((B.1 ++ [keyC a c1 s])[B.1.length]?.getD [])[0]?.getD 0 = _
            rw [List.getElem?_append_right (Nat.le_refl _)]
            simp only [Nat.sub_self, List.getElem?_cons_zero, Option.getD_some]
            rw [hk, hl]
      · have e1 := refStep_old (a := a) (st := A) h0 hf
        have h1 : c1[s]?.getD 0 = findG (keyC a cl s) A.1 0 := hat _ (by rw [e1])
        have hr := findG_range (keyC a cl s) A.1 0
        have hk : (keyC a c1 s)[0]?.getD 0 = findG (keyC a cl s) A.1 0 := by rw [keyC_head, h1]
        by_cases hf2 : findG (keyC a c1 s) B.1 0 < 0
        · have e2 := refStep_new (a := a) (cl := c1) (st := B) (s := s) (by omega) hf2
          rw [e1, e2]
          refine ⟨by simp; have := ih.le; omega, fun ky hky => ?_, fun h => ?_⟩
          · rcases List.mem_append.1 hky with h | h
            · exact ih.hd ky h
            · simp at h; subst h; rw [hk]; show _ ∧ _ < (A.1.length : Int); omega
          · simp at h; have := ih.le; omega
        · have e2 := refStep_old (a := a) (cl := c1) (st := B) (s := s) (by omega) hf2
          rw [e1, e2]
          refine ⟨ih.le, ih.hd, fun h => ?_⟩
          have h := ih.eq h
          refine ⟨?_, h.2⟩
          have hr2 := findG_range (keyC a c1 s) B.1 0
          have hg := findG_get0 (keyC a c1 s) B.1 (by omega)
          have h2 := h.2 (findG (keyC a c1 s) B.1 0).toNat (by omega)
          rw [hg, Option.getD_some, hk] at h2
          rw [h.1]
          show A.2 ++ [_] = A.2 ++ [_]
          rw [h2]
          congr 2
          omega

def cnt (a : Aut) (cl : List Int) : Nat := (refR a cl).1.length
theorem cnt_le (a : Aut) (cl : List Int) : cnt a cl ≤ a.n := (refTo_len a.n).2
theorem cnt_mono (a : Aut) (cl : List Int) : cnt a cl ≤ cnt a (refR a cl).2 := (twin a cl a.n (Nat.le_refl _)).le
theorem cnt_fix (a : Aut) (cl : List Int) (h : cnt a cl = cnt a (refR a cl).2) : (refR a (refR a cl).2).2 = (refR a cl).2 := ((twin a cl a.n (Nat.le_refl _)).eq h).1

/-- how many classes the round before found -/
noncomputable def bef (a : Aut) : Nat → Int
  | 0 => -1
  | m + 1 => (cnt a (clsN a m) : Nat)
theorem bef_le (a : Aut) (m : Nat) : bef a m ≤ a.n := by
  cases m with
  | zero => simp only [bef]; omega
  | succ m => have := cnt_le a (clsN a m); simp only [bef]; omega
theorem bef_up (a : Aut) (m : Nat) : bef a m ≤ cnt a (clsN a m) := by
  cases m with
  | zero => simp only [bef]; omega
  | succ m => have := cnt_mono a (clsN a m); simp only [bef]; rw [clsN_succ]; omega
theorem bef_stop (a : Aut) (m : Nat) (hm : (m : Int) ≤ bef a m + 1) (h : (cnt a (clsN a m) : Int) = bef a m) : (refR a (clsN a m)).2 = clsF a := by
  cases m with
  | zero => simp only [bef] at h; omega
  | succ m =>
    simp only [bef] at h hm
    have hc := cnt_le a (clsN a m)
    have hfx : clsN a (m + 1 + 1) = clsN a (m + 1) := by
      rw [clsN_succ a (m + 1), clsN_succ a m]
      exact cnt_fix a (clsN a m) (by rw [clsN_succ] at h; omega)
    rw [← clsN_succ, hfx]
    exact (clsF_of (by omega) hfx).symm
/-- the last classes are the classes behind one more round -/
theorem clsF_fix (a : Aut) : (refR a (clsF a)).2 = clsF a := by
  have key : ∀ m, (∀ j, j < m → (cnt a (clsN a j) : Int) ≠ bef a j) → (m : Int) ≤ bef a m + 1 := by
    intro m
    induction m with
    | zero => intro _; simp [bef]
    | succ m ih =>
      intro h
      have h1 := ih (fun j hj => h j (by omega))
      have h2 := h m (by omega)
      have h3 := bef_up a m
      simp only [bef]
      omega
  have hex : ∃ m, m ≤ a.n + 1 ∧ (cnt a (clsN a m) : Int) = bef a m ∧ (m : Int) ≤ bef a m + 1 := by
    have hb := bef_le a (a.n + 2)
    by_cases h : ∀ j, j < a.n + 2 → (cnt a (clsN a j) : Int) ≠ bef a j
    · have := key (a.n + 2) h; omega
    · obtain ⟨j, hj⟩ := Classical.not_forall.1 h
      obtain ⟨hj1, hj2⟩ := Classical.not_imp.1 hj
      have hj3 : (cnt a (clsN a j) : Int) = bef a j := Classical.not_not.1 hj2
      -- the least such
      have hmin : ∀ n, n ≤ j → (∃ m, m ≤ j ∧ (cnt a (clsN a m) : Int) = bef a m ∧ ∀ i, i < m → (cnt a (clsN a i) : Int) ≠ bef a i) ∨ ∀ i, i < n → (cnt a (clsN a i) : Int) ≠ bef a i := by
        intro n
        induction n with
        | zero => intro _; right; intro i hi; omega
        | succ n ih =>
          intro hn
          rcases ih (by omega) with h | h
          · exact .inl h
          · by_cases hc : (cnt a (clsN a n) : Int) = bef a n
            · exact .inl ⟨n, by omega, hc, h⟩
            · right
              intro i hi
              by_cases hin : i = n
              · subst hin; exact hc
              · exact h i (by omega)
      rcases hmin j (Nat.le_refl _) with ⟨m, hm1, hm2, hm3⟩ | h
      · exact ⟨m, by omega, hm2, key m hm3⟩
      · exact ⟨j, by omega, hj3, key j h⟩
  obtain ⟨m, hm, h1, h2⟩ := hex
  cases m with
  | zero => simp only [bef] at h1; omega
  | succ m =>
    simp only [bef] at h1 h2
    have hc := cnt_le a (clsN a m)
    have hfx : clsN a (m + 1 + 1) = clsN a (m + 1) := by
      rw [clsN_succ a (m + 1), clsN_succ a m]
      exact cnt_fix a (clsN a m) (by rw [clsN_succ] at h1; omega)
    rw [clsF_of (by omega) hfx, ← clsN_succ, hfx]
theorem refTo_rng {a : Aut} {cl : List Int} : ∀ n x, x ∈ (refTo a cl n).2 → -1 ≤ x ∧ x < n
  | 0, x, h => by simp [refTo, upto] at h
  | n + 1, x, h => by
    have ih := refTo_rng (a := a) (cl := cl) n
    have hl := refTo_len (a := a) (cl := cl) n
    rw [refTo_succ] at h
    unfold refStep at h
    split at h
    · rcases List.mem_append.1 h with h | h
      · have := ih x h; omega
      · simp at h; omega
    · split at h
      · rcases List.mem_append.1 h with h | h
        · have := ih x h; omega
        · simp at h; omega
      · rcases List.mem_append.1 h with h | h
        · have := ih x h; omega
        · simp only [List.mem_singleton] at h
          have := findG_range (keyC a cl n) (refTo a cl n).1 0
          omega
theorem clsF_len (a : Aut) : (clsF a).length = a.n := clsN_len a _
theorem clsF_rng {a : Aut} {x : Int} (h : x ∈ clsF a) : -1 ≤ x ∧ x < a.n := by
  rw [← clsF_fix a] at h
  exact refTo_rng a.n x h
theorem clsF_mem {a : Aut} {s : Nat} (h : s < a.n) : (clsF a)[s]?.getD 0 ∈ clsF a := by
  rw [List.getElem?_eq_getElem (by rw [clsF_len]; exact h)]
  exact List.getElem_mem _
end Go.Proofs.YtmnhpbbapkcdjaaGreat

/- Walks: the classes of states, the implementation. -/
namespace Go.Proofs.YtmnhpbbapkcdjaaGreat
open Go.RowKit

/-- a row of integers of the call's own -/
def OwnI (w w' : World) (n : Nat) (xs : List Int) (e : Ending) : Prop :=
  ∃ v, e = .returned v ∧ w'.ownsRow w.heap.size 3 1 v n (ints xs) ∧ Below w.heap.size w w'

set_option maxHeartbeats 1000000 in
set_option maxRecDepth 100000 in
theorem classes_any (a : Aut) (v : Value) (w : World) (p : Nat → Prop) (h : AutV w p v a) (hf : a.Fits) (hn : a.n ≤ 1000) :
    Calls Tryz.prog 68 #[v] w fun e w' => OwnI w w' a.n (clsF a) e := by
  obtain ⟨A1, c1, A2, c2, rfl, h1, h2⟩ := h.fit hf
  have hP := ((h.weak (fun b _ h => (h : b < w.heap.size))).alloc (.cells #[.int .i64 a.start, .slice A1 a.n c1, .slice A2 a.n c2] 31)).alloc (.cells #[] 3)
  have hPB := (Blk.new w 31 #[.int .i64 a.start, .slice A1 a.n c1, .slice A2 a.n c2]).alloc (.cells #[] 3)
  have hW := below_alloc2 w (.cells #[.int .i64 a.start, .slice A1 a.n c1, .slice A2 a.n c2] 31) (.cells #[] 3)
  go_enter Tryz.func68, Tryz.ntmps68
  go_wp2_with fail
  refine (live_any a _ _ _ hP hf hn).mono ?_; rintro e w1 ⟨gl, capl, rfl, hown, hb1⟩
  have hP1 := hP.below hb1
  have hA1 : Sl w1 (· < w.heap.size) 1 A1 a.n (bools a.acc) := (((h1.weak (fun b _ h => (h : b < w.heap.size))).alloc _).alloc _).below hb1 (fun _ _ h => h)
  have hPB1 := hPB.below hb1 hPB.lt
  have hbz := hW.trans (hb1.mono (by simp; omega))
  have hI0 : w1.ownsRow (w.heap.size + 1) 3 1 (.slice (some ⟨w.heap.size + 1, 0, none⟩) 0 0) 0 (ints []) := by
    have := own0 (w := w.alloc (.cells #[.int .i64 a.start, .slice A1 a.n c1, .slice A2 a.n c2] 31)) (base := w.heap.size + 1) (g := w.heap.size + 1) (e := 3) (size := 1) (by simp) (by omega)
    exact own_bel this hb1
  have hL0 : w1.ownsRow (w.heap.size + 1) 4 1 (.slice (some ⟨gl, 0, none⟩) a.n capl) a.n (bools (liveF a)) := hown.mono (by simp)
  have hs1 : w.heap.size + 1 + 1 ≤ w1.heap.size := by have := hb1.size; simp at this; omega
  clear hP hPB hb1 hW hown
  go_wp2_with fail
  go_loopw [3, 13] (fun v3 i wr => ∃ k g c, k ≤ a.n ∧ i = .int .i64 (k : Nat) ∧ v3 = .slice (some ⟨g, 0, none⟩) k c ∧ wr.ownsRow (w.heap.size + 1) 3 1 v3 k (ints (initTo a k)) ∧ wr.ownsRow (w.heap.size + 1) 4 1 (.slice (some ⟨gl, 0, none⟩) a.n capl) a.n (bools (liveF a)) ∧ Below (w.heap.size + 1) w1 wr) (fun _ i _ => a.n - (intOf i).toNat)
  case atStart => exact ⟨0, _, _, by omega, rfl, rfl, hI0, hL0, Below.refl _ _⟩
  case round =>
    clear hI0 hL0
    obtain ⟨k, g, c, hk, rfl, rfl, hI, hL, hb⟩ := hrel
    have hbs : w.heap.size + 1 ≤ wr.heap.size := by have := hb.size; omega
    have hPB2 := hPB1.below hb (by omega)
    have f1 := hPB2.cell 1
    simp at f1
    by_cases hlt : k < a.n
    · have HS := Lib.hid (initTo_snoc a k)
      have hlc := own_bool_at hL hlt
      have hA1w : Sl wr (· < w.heap.size) 1 A1 a.n (bools a.acc) := hA1.keep hb.size (fun b hb2 _ => hb.block b (by omega))
      obtain ⟨bA, oA, rfl, _, _, hca⟩ := hA1w.bool_at hlt
      cases hlv : (liveF a)[k]?.getD false with
      | false =>
        have HV : Hid (initV a k = -1) := Lib.hid (by unfold initV; rw [if_neg (by rw [hlv]; simp)])
        rw [hlv] at hlc
        clear hlv
        go_wp2_with (at_builtin; refine wpList_app1 elInt rfl (.tmp 24) (.tmp 25) rfl (w.heap.size + 1) _ k _ rfl hI #[.int .i64 (-1)] _ rfl (by simp) rfl (by simp [Value.oneCell']) (by omega) (by omega) hbs ?_; intro g4 c4 w4 ho4 hg4 _ _ _; have hb4 := hb.grown hg4 (by omega) (own_ge hI); have hL4 := hL.kept hg4 (own_ne hL hI (by decide)))
        go_roundw
        case rel => exact ⟨k + 1, g4, c4, by omega, by go_num, rfl, by rw [HS.out, HV.out, ← ints_snoc]; exact ho4, hL4, hb4⟩
        case measure => simp [intOf]; omega
      | true =>
        rw [hlv] at hlc
        cases hac : a.acc[k]?.getD false with
        | true =>
          have HV : Hid (initV a k = 1) := Lib.hid (by unfold initV; rw [if_pos hlv, if_pos hac])
          rw [hac] at hca
          clear hlv hac
          go_wp2_with (at_builtin; refine wpList_app1 elInt rfl (.tmp 33) (.tmp 34) rfl (w.heap.size + 1) _ k _ rfl hI #[.int .i64 1] _ rfl (by simp) rfl (by simp [Value.oneCell']) (by omega) (by omega) hbs ?_; intro g4 c4 w4 ho4 hg4 _ _ _; have hb4 := hb.grown hg4 (by omega) (own_ge hI); have hL4 := hL.kept hg4 (own_ne hL hI (by decide)))
          go_roundw
          case rel => exact ⟨k + 1, g4, c4, by omega, by go_num, rfl, by rw [HS.out, HV.out, ← ints_snoc]; exact ho4, hL4, hb4⟩
          case measure => simp [intOf]; omega
        | false =>
          have HV : Hid (initV a k = 0) := Lib.hid (by unfold initV; rw [if_pos hlv, if_neg (by rw [hac]; simp)])
          rw [hac] at hca
          clear hlv hac
          go_wp2_with (at_builtin; refine wpList_app1 elInt rfl (.tmp 18) (.tmp 19) rfl (w.heap.size + 1) _ k _ rfl hI #[.int .i64 0] _ rfl (by simp) rfl (by simp [Value.oneCell']) (by omega) (by omega) hbs ?_; intro g4 c4 w4 ho4 hg4 _ _ _; have hb4 := hb.grown hg4 (by omega) (own_ge hI); have hL4 := hL.kept hg4 (own_ne hL hI (by decide)))
          go_roundw
          case rel => exact ⟨k + 1, g4, c4, by omega, by go_num, rfl, by rw [HS.out, HV.out, ← ints_snoc]; exact ho4, hL4, hb4⟩
          case measure => simp [intOf]; omega
    · obtain rfl : k = a.n := by omega
      clear hL f1 hPB2
      have hI0 : wr.ownsRow (w.heap.size + 1) 3 1 (.slice (some ⟨g, 0, none⟩) a.n c) a.n (ints (clsN a 0)) := hI
      have hn0 : Hid (((0 : Nat) : Int) ≤ bef a 0 + 1) := Lib.hid (by simp [bef])
      clear hI
      go_wp2_with fail
      go_loopw [3, 6] (fun v3 v6 wr => ∃ m A c, v6 = .int .i64 (bef a m) ∧ v3 = .slice A a.n c ∧ Hid ((m : Int) ≤ bef a m + 1) ∧ wr.ownsRow (w.heap.size + 1) 3 1 v3 a.n (ints (clsN a m)) ∧ Below (w.heap.size + 1) w1 wr) (fun _ b _ => a.n + 1 - (intOf b + 1).toNat)
      case atStart => exact ⟨0, _, _, by simp [bef], rfl, hn0, hI0, hb⟩
      case round =>
        clear hI0 hn0 hb hbs
        obtain ⟨m, A, c, rfl, rfl, hm, hI, hb⟩ := hrel
        have hPB2 := hPB1.below hb (by omega)
        have f0 := hPB2.cell 0; have f1 := hPB2.cell 1; have f2 := hPB2.cell 2
        simp at f0 f1 f2
        have hP2 : AutV wr (· < w.heap.size) (.agg #[.int .i64 a.start, .slice A1 a.n c1, .slice A2 a.n c2]) a := hP1.keep hb.size (fun b hb2 _ => hb.block b (by have hb2 : b < w.heap.size := hb2; omega))
        have hC2 : Sl wr (fun _ => True) 1 A a.n (ints (clsN a m)) := Sl.of_own hI (fun _ _ => trivial)
        have hbn := bef_le a m
        have hb0 : -1 ≤ bef a m := by have := hm.out; omega
        have hup : bef a m ≤ ((refR a (clsN a m)).1.length : Nat) := bef_up a m
        have hcl : (refR a (clsN a m)).1.length ≤ a.n := cnt_le a (clsN a m)
        have hst : Hid (((((refR a (clsN a m)).1.length : Nat) : Int) = bef a m) → (refR a (clsN a m)).2 = clsF a) := Lib.hid (bef_stop a m hm.out)
        have HSU : Hid (clsN a (m + 1) = (refR a (clsN a m)).2) := Lib.hid (clsN_succ a m)
        have HB1 : Hid (bef a (m + 1) = ((refR a (clsN a m)).1.length : Nat)) := Lib.hid rfl
        have hws := hb.size
        go_wp2_with fail
        refine (refine_any a _ (clsN a m) A c wr _ _ hP2 hf hC2 hn).mono ?_; rintro e w4 ⟨v4, rfl, hown4, hb4⟩
        obtain ⟨A4, c4, rfl⟩ := own_form hown4
        have hb5 := hb.trans (hb4.mono (by omega))
        generalize (refR a (clsN a m)).1.length = q at *
        generalize (refR a (clsN a m)).2 = nx at *
        have HBM := Lib.hid hm
        generalize hbe : bef a m = b0 at *
        have HBE := Lib.hid hbe; clear hbe
        by_cases hc : (q : Int) = b0
        · have hc' : ((q : Int) == b0) = true := by simpa using hc
          have HE := Lib.hid (hst.out hc)
          clear hc
          go_wp2
          go_ret
          exact ⟨_, rfl, by rw [← HE.out]; exact hown4.mono (by omega), hbz.trans (hb5.mono (by omega))⟩
        · have hc' : ((q : Int) == b0) = false := by simpa using hc
          have hq : b0 < q := by omega
          clear hc
          go_wp2
          go_roundw
          case rel => exact ⟨m + 1, A4, c4, by rw [HB1.out], rfl, Lib.hid (by rw [HB1.out]; have := HBM.out.out; omega), by rw [HSU.out]; exact hown4.mono (by omega), hb5⟩
          case measure => simp [intOf]; have := HBE.out; omega
end Go.Proofs.YtmnhpbbapkcdjaaGreat

/- Walks: minimization, the implementation. -/
namespace Go.Proofs.YtmnhpbbapkcdjaaGreat
open Go.RowKit

theorem min1_any (A : Option Addr) (n c g : Nat) (cl : List Int) (x : Int) (p : Nat → Prop) (w : World) (h : Sl w p 1 A n (ints cl)) (hB : Blk w g 24 #[.slice A n c]) :
    Calls Tryz.prog 69 #[.int .i64 x, .pointer (some ⟨g, 0, none⟩)] w fun e w' => e = .returned (.int .i64 (findI x cl 0)) ∧ w = w' := by
  have f0 := hB.cell 0
  simp at f0
  go_enter Tryz.func69, Tryz.ntmps69
  go_wp2_with (go_at_call 70; refine (index_any A n c cl x p w h).mono ?_; rintro e w1 ⟨rfl, rfl⟩)
  go_ret
  exact ⟨rfl, rfl⟩

/-- acceptance and step of a class: those of its first state -/
def cAc (a : Aut) (cl : List Int) (x : Int) : Bool := a.acc[(findI x cl 0).toNat]?.getD false
def cNx (a : Aut) (cl : List Int) (x : Int) (k : Nat) : Option Int :=
  if a.nx (findI x cl 0).toNat k < 0 then none else if cl[(a.nx (findI x cl 0).toNat k).toNat]?.getD 0 < 0 then none else some (cl[(a.nx (findI x cl 0).toNat k).toNat]?.getD 0)

theorem min2_any (a : Aut) (cl : List Int) (g gf gc : Nat) (v0 v1 v2 : Value) (A : Option Addr) (c : Nat) (x : Int) (w : World) (p q : Nat → Prop) (hB : Blk w g 31 #[v0, v1, v2]) (hBf : Blk w gf 79 #[.func (.func 69) #[] #[.pointer (some ⟨gc, 0, none⟩)]]) (hBc : Blk w gc 24 #[.slice A a.n c])
    (h : AutV w p (.agg #[v0, v1, v2]) a) (hC : Sl w q 1 A a.n (ints cl)) (hx : x ∈ cl) :
    Calls Tryz.prog 71 #[.int .i64 x, .pointer (some ⟨g, 0, none⟩), .pointer (some ⟨gf, 0, none⟩)] w fun e w' => e = .returned (.bool (cAc a cl x)) ∧ Below w.heap.size w w' := by
  obtain ⟨A1, n1, c1, A2, n2, c2, hv, h1, h2⟩ := h
  simp only [Value.agg.injEq, List.cons.injEq, Array.mk.injEq, and_true] at hv
  obtain ⟨rfl, rfl, rfl⟩ := hv
  obtain rfl : a.n = n1 := h1.lenb
  have f0 := hB.cell 0; have f1 := hB.cell 1; have f2 := hB.cell 2; have t0 := hBf.cell 0
  simp at f0 f1 f2 t0
  have hcl := hC.len1
  have hr := findI_range x cl 0
  have hm := (findI_mem x cl 0).2 hx
  obtain ⟨bA, oA, rfl, _, _, hca⟩ := h1.bool_at (k := (findI x cl 0).toNat) (by omega)
  replace hca : w.cell? ⟨bA, oA + (findI x cl 0).toNat, none⟩ = some (.bool (cAc a cl x)) := hca
  have hr2 : findI x cl 0 < a.n := by omega
  clear hr
  generalize cAc a cl x = b at *
  go_enter Tryz.func71, Tryz.ntmps71
  go_wp2_with fail
  go_quiet ((first | (go_at_call 69; first | exact quietD1 ((min1_any A a.n c gc cl x q _ (by exact hC) (by exact hBc)).mono fun _ _ ⟨he, hw⟩ => ⟨he, by rw [← hw]; exact Drew.refl _⟩) | exact quietD2 ((min1_any A a.n c gc cl x q _ (by exact hC) (by exact hBc)).mono fun _ _ ⟨he, hw⟩ => ⟨he, by rw [← hw]; exact Drew.refl _⟩))))
  go_wp2
  go_ret
  exact ⟨rfl, below_drewN (Below.refl _ _) _⟩

theorem min3_any (a : Aut) (cl : List Int) (g gf gc : Nat) (v0 v1 v2 : Value) (A : Option Addr) (c : Nat) (x : Int) (k : Nat) (w : World) (p q : Nat → Prop) (hB : Blk w g 31 #[v0, v1, v2]) (hBf : Blk w gf 79 #[.func (.func 69) #[] #[.pointer (some ⟨gc, 0, none⟩)]]) (hBc : Blk w gc 24 #[.slice A a.n c])
    (h : AutV w p (.agg #[v0, v1, v2]) a) (hf : a.Fits) (hC : Sl w q 1 A a.n (ints cl)) (hx : x ∈ cl) (hk : k < 9) :
    Calls Tryz.prog 72 #[.int .i64 x, .int .i64 k, .pointer (some ⟨g, 0, none⟩), .pointer (some ⟨gf, 0, none⟩), .pointer (some ⟨gc, 0, none⟩)] w fun e w' => NextPost (cNx a cl) x k w e w' := by
  have f0 := hB.cell 0; have f1 := hB.cell 1; have f2 := hB.cell 2; have t0 := hBf.cell 0; have u0 := hBc.cell 0
  simp at f0 f1 f2 t0 u0
  have hcl := hC.len1
  have hr := findI_range x cl 0
  have hm := (findI_mem x cl 0).2 hx
  have hr2 : findI x cl 0 < a.n := by omega
  have hmv : mvI a (findI x cl 0) k = a.nx (findI x cl 0).toNat k := by unfold mvI; rw [if_pos ⟨hm, isL_iff.2 ⟨by omega, by omega⟩⟩]; simp
  have hrg := (hf.2.2.2 (findI x cl 0).toNat (by omega)).2 k hk
  have HN1 : Hid (a.nx (findI x cl 0).toNat k < 0 → cNx a cl x k = none) := Lib.hid (fun h => by unfold cNx; rw [if_pos h])
  have HN2 : Hid (¬ a.nx (findI x cl 0).toNat k < 0 → cl[(a.nx (findI x cl 0).toNat k).toNat]?.getD 0 < 0 → cNx a cl x k = none) := Lib.hid (fun h h2 => by unfold cNx; rw [if_neg h, if_pos h2])
  have HN3 : Hid (¬ a.nx (findI x cl 0).toNat k < 0 → ¬ cl[(a.nx (findI x cl 0).toNat k).toNat]?.getD 0 < 0 → cNx a cl x k = some (cl[(a.nx (findI x cl 0).toNat k).toNat]?.getD 0)) := Lib.hid (fun h h2 => by unfold cNx; rw [if_neg h, if_neg h2])
  have HMV := Lib.hid hmv
  clear hr hmv hcl
  have hP := h
  generalize a.nx (findI x cl 0).toNat k = t at *
  go_enter Tryz.func72, Tryz.ntmps72
  go_wp2_with fail
  go_region_held3 (fun w' => w'.cell? ⟨g, 0, none⟩ = some v0 ∧ w'.cell? ⟨g, 1, none⟩ = some v1 ∧ w'.cell? ⟨g, 2, none⟩ = some v2 ∧ w'.cell? ⟨gf, 0, none⟩ = some (.func (.func 69) #[] #[.pointer (some ⟨gc, 0, none⟩)]))
    (first | go_keep | exact ⟨d0, d1, d2, d3⟩)
    (first
      | (go_at_call 69; refine (min1_any A a.n c gc cl x q _ (by exact hC) (by exact hBc)).mono ?_; rintro e w3 ⟨rfl, rfl⟩)
      | (go_at_call 44; refine (move_any a _ (findI x cl 0) k _ p (by exact hP) hf hr2).mono ?_; rintro e w4 ⟨rfl, hb4⟩; have d0 := (hb4.cell (p := ⟨g, 0, none⟩) hB.lt).trans f0; have d1 := (hb4.cell (p := ⟨g, 1, none⟩) hB.lt).trans f1; have d2 := (hb4.cell (p := ⟨g, 2, none⟩) hB.lt).trans f2; have d3 := (hb4.cell (p := ⟨gf, 0, none⟩) hBf.lt).trans t0))
  have hb5 : Below w.heap.size w w4 := (Below.refl w.heap.size w).drew.trans hb4
  have hBc4 : Blk w4 gc 24 #[.slice A a.n c] := Blk.below (w := w.drew) hBc hb4 hBc.lt
  have hC4 : Sl w4 q 1 A a.n (ints cl) := Sl.below (w := w.drew) hC hb4 (fun b _ h => h)
  clear u0
  have u0 := hBc4.cell 0
  simp at u0
  rw [HMV.out]
  clear d0 d1 d2 d3 f0 f1 f2 t0 hb4
  by_cases ht : t < 0
  · have ht' : decide (t < 0) = true := by simpa using ht
    have HN := Lib.hid (HN1.out ht)
    go_wp2
    go_ret2
    exact ⟨0, false, rfl, HN.out, hb5⟩
  · have ht' : decide (t < 0) = false := by simpa using ht
    obtain ⟨bC, oC, rfl, _, _, hcc⟩ := hC4.int_at (k := t.toNat) (by omega)
    have HN2 := Lib.hid (HN2.out (by omega))
    have HN3 := Lib.hid (HN3.out (by omega))
    generalize cl[t.toNat]?.getD 0 = y at *
    by_cases hy : y < 0
    · have hy' : decide (y < 0) = true := by simpa using hy
      have HN := Lib.hid (HN2.out hy)
      go_wp2
      go_ret2
      exact ⟨0, false, rfl, HN.out, hb5⟩
    · have hy' : decide (y < 0) = false := by simpa using hy
      have HN := Lib.hid (HN3.out (by omega))
      go_wp2
      go_ret2
      exact ⟨y, true, rfl, HN.out, hb5⟩
end Go.Proofs.YtmnhpbbapkcdjaaGreat
