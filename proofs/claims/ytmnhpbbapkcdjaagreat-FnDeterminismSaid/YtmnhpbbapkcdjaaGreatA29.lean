/- Walk: the law FnDeterminism. No condition. -/
import Derived.Test.YtmnhpbbapkcdjaaGreatA28
import Derived.Deep.DeepCutAuto

/- Walk: the law FnDeterminism. -/
namespace Go.Proofs.YtmnhpbbapkcdjaaGreat
open Go.RowKit

theorem AutV.form {w : World} {p : Nat → Prop} {v : Value} {a : Aut} (h : AutV w p v a) : ∃ A1 c1 A2 n2 c2, v = .agg #[.int .i64 a.start, .slice A1 a.n c1, .slice A2 n2 c2] := by
  obtain ⟨A1, n1, c1, A2, n2, c2, rfl, h1, h2⟩ := h
  obtain rfl : a.n = n1 := h1.lenb
  exact ⟨_, _, _, _, _, rfl⟩
/-- the three automata in their variables -/
structure Three (w : World) (g1 g2 g3 : Nat) (v1 v2 v3 : Array Value) : Prop where
  a : Blk w g1 31 v1
  b : Blk w g2 31 v2
  c : Blk w g3 31 v3
theorem Three.below {w w' : World} {g1 g2 g3 : Nat} {v1 v2 v3 : Array Value} (h : Three w g1 g2 g3 v1 v2 v3) (hb : Below w.heap.size w w') : Three w' g1 g2 g3 v1 v2 v3 :=
  ⟨h.a.below hb h.a.lt, h.b.below hb h.b.lt, h.c.below hb h.c.lt⟩
theorem Three.cells {w : World} {g1 g2 g3 : Nat} {u1 u2 u3 x1 x2 x3 y1 y2 y3 : Value} (h : Three w g1 g2 g3 #[u1, u2, u3] #[x1, x2, x3] #[y1, y2, y3]) :
    w.cell? ⟨g1, 0, none⟩ = some u1 ∧ w.cell? ⟨g1, 1, none⟩ = some u2 ∧ w.cell? ⟨g1, 2, none⟩ = some u3 ∧ w.cell? ⟨g2, 0, none⟩ = some x1 ∧ w.cell? ⟨g2, 1, none⟩ = some x2 ∧ w.cell? ⟨g2, 2, none⟩ = some x3 ∧ w.cell? ⟨g3, 0, none⟩ = some y1 ∧ w.cell? ⟨g3, 1, none⟩ = some y2 ∧ w.cell? ⟨g3, 2, none⟩ = some y3 :=
  ⟨h.a.cell 0, h.a.cell 1, h.a.cell 2, h.b.cell 0, h.b.cell 1, h.b.cell 2, h.c.cell 0, h.c.cell 1, h.c.cell 2⟩
theorem min_valid {a : Aut} (hv : validB a = true) : validB (minS a) = true := by
  obtain ⟨hn, hf⟩ := validB_iff.1 hv
  have := num_fits (cong_cls hf) hf
  exact validB_iff.2 ⟨by have := this.2; unfold minS; omega, this.1⟩
theorem trim_valid {a : Aut} (hv : validB a = true) : validB (trimS a) = true := by
  obtain ⟨hn, hf⟩ := validB_iff.1 hv
  have := num_fits (cong_iota hf) hf
  exact validB_iff.2 ⟨by have := this.2; unfold trimS; omega, this.1⟩
theorem trimIT_same (a : Aut) : trimIT a = trimST a := by
  unfold trimIT trimST
  by_cases hv : validB a = true
  · rw [if_pos hv, if_pos hv, trim_same (validB_iff.1 hv).2]
  · rw [if_neg hv, if_neg hv]
theorem minIT_same (a : Aut) : minIT a = minST a := by
  unfold minIT minST
  by_cases hv : validB a = true
  · rw [if_pos hv, if_pos hv, min_same (validB_iff.1 hv).2]
  · rw [if_neg hv, if_neg hv]
theorem trimST_lang {a : Aut} (hv : validB a = true) (ws : List Int) : accWB (trimST a) ws = accWB a ws := by
  obtain ⟨hn, hf⟩ := validB_iff.1 hv
  have e : trimST a = trimS a := by unfold trimST; rw [if_pos hv]
  rw [e]
  obtain ⟨Q, h1, h2, h3⟩ := num_bis (cong_iota hf) hf
  exact h1.lang h3 h2 hv (trim_valid hv) ws
theorem minST_lang {a : Aut} (hv : validB a = true) (ws : List Int) : accWB (minST a) ws = accWB a ws := by
  obtain ⟨hn, hf⟩ := validB_iff.1 hv
  have e : minST a = minS a := by unfold minST; rw [if_pos hv]
  rw [e]
  obtain ⟨Q, h1, h2, h3⟩ := num_bis (cong_cls hf) hf
  exact h1.lang h3 h2 hv (min_valid hv) ws

set_option maxRecDepth 100000 in
set_option maxHeartbeats 4000000 in
theorem law_any (A : Option Addr) (n c : Nat) (xs : List Int) (w : World) (h : Sl w (· < w.heap.size) 1 A n (byts xs)) :
    Calls Tryz.prog 3 #[.slice A n c] w fun e w' => e = .returned (.bool true) ∧ Below w.heap.size w w' := by
  have hn : n ≤ 9223372036854775807 := by have := h.2.1; unfold maxLen at this; omega
  by_cases hbig : (1048576 : Int) < (n : Int)
  · go_enter Tryz.func3, Tryz.ntmps3
    go_wp2_with (go_at_call 4; refine (big_any A n c _ hn).mono ?_; rintro e w' ⟨rfl, rfl⟩)
    go_ret
    exact ⟨rfl, Below.refl _ _⟩
  · have hbd : decide ((1048576 : Int) < (n : Int)) = false := by simpa using hbig
    clear hbig
    go_enter Tryz.func3, Tryz.ntmps3
    go_wp2_with (go_at_call 4; refine (big_any A n c _ hn).mono ?_; rintro e w' ⟨rfl, rfl⟩)
    refine (drawDet_any A n c xs w h).mono ?_
    rintro e w1 ⟨v1, pa, rfl, hPO, hb1⟩
    have hPV := hPO.posV.weak (q := fun _ => True) (fun _ _ _ => trivial)
    have hs1 := hb1.size
    obtain ⟨va, vf, rfl, ha, hf, _⟩ := hPO
    obtain ⟨A5, c5, rfl⟩ := own_form ha
    obtain ⟨A6, c6, rfl⟩ := own_form hf
    clear ha hf
    generalize hn5 : pa.n = n5 at *
    generalize hn6 : pa.follow.length = n6 at *
    generalize hpf : pa.first = pf at *
    generalize hpl : pa.last = pl at *
    generalize hpb : pa.nullable = pb at *
    clear hn5 hn6 hpf hpl hpb
    have hP1 := Blk.new w1 26 #[.slice A5 n5 c5, .int .i64 pf, .int .i64 pl, .slice A6 n6 c6, .bool pb]
    have hb1' : Below w.heap.size w (w1.alloc (.cells #[.slice A5 n5 c5, .int .i64 pf, .int .i64 pl, .slice A6 n6 c6, .bool pb] 26)) := hb1.trans ((below_alloc w1 _).mono hs1)
    have hS1 := h.below hb1' (fun b hb _ => hb)
    have hPV1 := hPV.alloc (.cells #[.slice A5 n5 c5, .int .i64 pf, .int .i64 pl, .slice A6 n6 c6, .bool pb] 26)
    go_wp2_with fail
    refine (implDet_any pa _ _ _ hPV1).mono ?_
    rintro e w2 ⟨v2, rfl, hA2, hb2⟩
    obtain ⟨A7, c7, A8, n8, c8, rfl⟩ := hA2.form
    have hP2 := hP1.below hb2 hP1.lt
    have hPV2 := hPV1.below hb2
    have hbw2 : Below w.heap.size w w2 := hb1'.trans (hb2.mono hb1'.size)
    have x0 := hP2.cell 0; have x1 := hP2.cell 1; have x2 := hP2.cell 2; have x3 := hP2.cell 3; have x4 := hP2.cell 4
    have xl := hP2.lt
    simp at x0 x1 x2 x3 x4
    obtain ⟨rr, HR⟩ : ∃ rr, Hid (detR pa = rr) := ⟨_, Lib.hid rfl⟩
    rw [HR.out] at hA2 ⊢
    obtain ⟨ra, HRA⟩ : ∃ ra, Hid (resAut rr = ra) := ⟨_, Lib.hid rfl⟩
    rw [HRA.out] at hA2 ⊢
    have hA3 := Blk.new w2 31 #[.int .i64 ra.start, .slice A7 ra.n c7, .slice A8 n8 c8]
    have hAV3 := hA2.alloc (.cells #[.int .i64 ra.start, .slice A7 ra.n c7, .slice A8 n8 c8] 31)
    have hP3 := hP2.alloc (.cells #[.int .i64 ra.start, .slice A7 ra.n c7, .slice A8 n8 c8] 31)
    have hPV3 := hPV2.alloc (.cells #[.int .i64 ra.start, .slice A7 ra.n c7, .slice A8 n8 c8] 31)
    have hb3 : Below w.heap.size w (w2.alloc (.cells #[.int .i64 ra.start, .slice A7 ra.n c7, .slice A8 n8 c8] 31)) := hbw2.trans ((below_alloc w2 _).mono hbw2.size)
    clear hP1 hPV hPV1 hb1 hA2 hP2 hPV2 hbw2 hb2 hb1' hS1
    generalize hnA : ra.n = nA at *
    go_wp2_with fail
    refine (specDet_any pa _ _ _ hPV3).mono ?_
    rintro e w4 ⟨v4, rfl, hB4, hb4⟩
    rw [HR.out, HRA.out] at hB4
    obtain ⟨D7, d7, D8, m8, d8, rfl⟩ := hB4.form
    rw [HR.out, hnA]
    rw [hnA] at hB4
    have hA4 := hA3.below hb4 hA3.lt
    have hAV4 := hAV3.below hb4
    have hP4 := hP3.below hb4 hP3.lt
    have hPV4 := hPV3.below hb4
    have hbw4 : Below w.heap.size w w4 := hb3.trans (hb4.mono hb3.size)
    clear hA3 hAV3 hP3 hPV3 hb3 hb4 x0 x1 x2 x3 x4 xl
    have y0 := hA4.cell 0; have y1 := hA4.cell 1; have y2 := hA4.cell 2
    have yl := hA4.lt
    simp at y0 y1 y2
    have hB5 := hB4.alloc (.cells #[.int .i64 ra.start, .slice D7 nA d7, .slice D8 m8 d8] 31)
    have hAV5 := hAV4.alloc (.cells #[.int .i64 ra.start, .slice D7 nA d7, .slice D8 m8 d8] 31)
    have hA5 := hA4.alloc (.cells #[.int .i64 ra.start, .slice D7 nA d7, .slice D8 m8 d8] 31)
    have hP5 := hP4.alloc (.cells #[.int .i64 ra.start, .slice D7 nA d7, .slice D8 m8 d8] 31)
    have hPV5 := hPV4.alloc (.cells #[.int .i64 ra.start, .slice D7 nA d7, .slice D8 m8 d8] 31)
    have hb5 : Below w.heap.size w (w4.alloc (.cells #[.int .i64 ra.start, .slice D7 nA d7, .slice D8 m8 d8] 31)) := hbw4.trans ((below_alloc w4 _).mono hbw4.size)
    clear hA4 hAV4 hP4 hPV4 hB4 hbw4
    have heq : eqA ra ra = true := eqA_iff.2 rfl
    generalize hio : rr.isSome = io at *
    go_wp2_with fail
    refine (specEqAut_any ra ra _ _ _ _ _ hAV5 hB5).mono ?_
    rintro e w6 ⟨rfl, hb6⟩
    rw [heq]
    have hA6 := hA5.below hb6 hA5.lt
    have hAV6 := hAV5.below hb6
    have hP6 := hP5.below hb6 hP5.lt
    have hPV6 := hPV5.below hb6
    have hbw6 : Below w.heap.size w w6 := hb5.trans (hb6.mono hb5.size)
    have hS6 := h.below hbw6 (fun b hb _ => hb)
    have hss6 := hbw6.size
    have hS6' : Sl w6 (· < w6.heap.size) 1 A n (byts xs) := hS6.weak (fun b hb hl => hl)
    clear hA5 hAV5 hP5 hPV5 hB5 hb5 hb6 y0 y1 y2 yl hS6 heq
    go_wp2_with fail
    refine (drawRun_any A n c xs _ hS6').mono ?_
    rintro e w7 ⟨v7, a7, E, ne, ce, ws, rfl, hA7', hW7, hb7⟩
    obtain ⟨E1, m1, e1, E2, m2, e2, rfl⟩ := hA7'.form
    have hA7 := hA6.below hb7 hA6.lt
    have hAV7 := hAV6.below hb7
    have hP7 := hP6.below hb7 hP6.lt
    have hPV7 := hPV6.below hb7
    have hbw7 : Below w.heap.size w w7 := hbw6.trans (hb7.mono hbw6.size)
    obtain ⟨O8, hO8⟩ : ∃ O8, O8 = Obj.cells #[.int .i64 a7.start, .slice E1 m1 e1, .slice E2 m2 e2] 31 := ⟨_, rfl⟩
    have hA8 := hA7.alloc O8
    have hAV8 := hAV7.alloc O8
    have hP8 := hP7.alloc O8
    have hPV8 := hPV7.alloc O8
    have hW8 := (hW7.al O8).weak (q := fun _ => True) (fun _ _ _ => trivial)
    have hbw8 : Below w.heap.size w (w7.alloc O8) := hbw7.trans ((below_alloc w7 O8).mono hbw7.size)
    clear hA6 hAV6 hP6 hPV6 hbw6 hS6' hss6 hA7' hA7 hAV7 hP7 hPV7 hW7 hb7 hbw7
    obtain ⟨W8, hW8e⟩ : ∃ W8, W8 = w7.alloc O8 := ⟨_, rfl⟩
    rw [← hW8e] at hA8 hAV8 hP8 hPV8 hW8 hbw8
    rw [hO8] at hW8e
    clear hO8
    go_upto_region 9 with fail
    rw [← hW8e]
    clear hW8e
    go_cut [54] (fun v54 wx => v54 = .bool false ∧ Below W8.heap.size W8 wx)
    case first =>
      have hbD : Below W8.heap.size W8 W8.drew := (Below.refl _ _).drew
      cases io with
      | false =>
        go_quiet (fail)
        go_wp2_with fail
        go_meet
        exact ⟨rfl, (below_drewN (Below.refl _ _) _)⟩
      | true =>
        have hS0 : (fun w' : World => w'.cell? ⟨w2.heap.size, 0, none⟩ = some (.int .i64 ra.start) ∧ w'.cell? ⟨w2.heap.size, 1, none⟩ = some (.slice A7 nA c7) ∧ w'.cell? ⟨w2.heap.size, 2, none⟩ = some (.slice A8 n8 c8) ∧ w'.cell? ⟨w1.heap.size, 0, none⟩ = some (.slice A5 n5 c5) ∧ w'.cell? ⟨w1.heap.size, 1, none⟩ = some (.int .i64 pf) ∧ w'.cell? ⟨w1.heap.size, 2, none⟩ = some (.int .i64 pl) ∧ w'.cell? ⟨w1.heap.size, 3, none⟩ = some (.slice A6 n6 c6) ∧ w'.cell? ⟨w1.heap.size, 4, none⟩ = some (.bool pb)) W8.drew := ⟨hA8.cell 0, hA8.cell 1, hA8.cell 2, hP8.cell 0, hP8.cell 1, hP8.cell 2, hP8.cell 3, hP8.cell 4⟩
        refine wp_region_X (fun w' : World => w'.cell? ⟨w2.heap.size, 0, none⟩ = some (.int .i64 ra.start) ∧ w'.cell? ⟨w2.heap.size, 1, none⟩ = some (.slice A7 nA c7) ∧ w'.cell? ⟨w2.heap.size, 2, none⟩ = some (.slice A8 n8 c8) ∧ w'.cell? ⟨w1.heap.size, 0, none⟩ = some (.slice A5 n5 c5) ∧ w'.cell? ⟨w1.heap.size, 1, none⟩ = some (.int .i64 pf) ∧ w'.cell? ⟨w1.heap.size, 2, none⟩ = some (.int .i64 pl) ∧ w'.cell? ⟨w1.heap.size, 3, none⟩ = some (.slice A6 n6 c6) ∧ w'.cell? ⟨w1.heap.size, 4, none⟩ = some (.bool pb)) 1000 (by kernel_rfl) ?_
        (refine wpX_take (i := 0) (v := ?_) (by simp only [List.getElem?_toArray, List.getElem?_cons_succ, List.getElem?_cons_zero]; rfl) (by kernel_rfl) (by kernel_rfl) (by kernel_rfl) (by kernel_rfl) (by exact fun _ _ _ h => h) (Or.inl ⟨by rfl, ?_⟩) (by assumption) ?_; rotate_left; (intro w hSw; (try dsimp only at hSw); go_simp); (try with_reducible rfl); (try simp only [Act.put, List.setIfInBounds_toArray, List.set_cons_zero, List.set_cons_succ]))
        (refine wpX_take (i := 1) (v := ?_) (by simp only [List.getElem?_toArray, List.getElem?_cons_succ, List.getElem?_cons_zero]; rfl) (by kernel_rfl) (by kernel_rfl) (by kernel_rfl) (by kernel_rfl) (by exact fun _ _ _ h => h) (Or.inl ⟨by rfl, ?_⟩) (by assumption) ?_; rotate_left; (intro w hSw; (try dsimp only at hSw); go_simp); (try with_reducible rfl); (try simp only [Act.put, List.setIfInBounds_toArray, List.set_cons_zero, List.set_cons_succ]))
        (refine wpX_take (i := 2) (v := ?_) (by simp only [List.getElem?_toArray, List.getElem?_cons_succ, List.getElem?_cons_zero]; rfl) (by kernel_rfl) (by kernel_rfl) (by kernel_rfl) (by kernel_rfl) (by exact fun _ _ _ h => h) (Or.inl ⟨by rfl, ?_⟩) (by assumption) ?_; rotate_left; (intro w hSw; (try dsimp only at hSw); go_simp); (try with_reducible rfl); (try simp only [Act.put, List.setIfInBounds_toArray, List.set_cons_zero, List.set_cons_succ]))
        refine wpX_one (i := 3) (by kernel_rfl) (by simp only [List.getElem?_toArray, List.getElem?_cons_succ, List.getElem?_cons_zero]; rfl) (fun K hK => ?_)
        go_simp
        refine (isWord_any E ne ce ws _ (fun _ => True) (by exact hW8)).mono ?_
        rintro e w' ⟨rfl, rfl⟩
        obtain ⟨bw, hbw⟩ : ∃ bw, Hid (isWordB ws = bw) := ⟨_, Lib.hid rfl⟩
        rw [hbw.out]
        (refine hK.out _ _ (Or.inr hS0) ?_; clear hK; (try simp only [Act.put, List.setIfInBounds_toArray, List.set_cons_zero, List.set_cons_succ]))
        cases bw with
        | false =>
          (refine wpX_take (i := 4) (v := ?_) (by simp only [List.getElem?_toArray, List.getElem?_cons_succ, List.getElem?_cons_zero]; rfl) (by kernel_rfl) (by kernel_rfl) (by kernel_rfl) (by kernel_rfl) (by exact fun _ _ _ h => h) (Or.inl ⟨by rfl, ?_⟩) (by assumption) ?_; rotate_left; (intro w hSw; (try dsimp only at hSw); go_simp); (try with_reducible rfl); (try simp only [Act.put, List.setIfInBounds_toArray, List.set_cons_zero, List.set_cons_succ]))
          (refine wpX_take (i := 5) (v := ?_) (by simp only [List.getElem?_toArray, List.getElem?_cons_succ, List.getElem?_cons_zero]; rfl) (by kernel_rfl) (by kernel_rfl) (by kernel_rfl) (by kernel_rfl) (by exact fun _ _ _ h => h) (Or.inl ⟨by rfl, ?_⟩) (by assumption) ?_; rotate_left; (intro w hSw; (try dsimp only at hSw); go_simp); (try with_reducible rfl); (try simp only [Act.put, List.setIfInBounds_toArray, List.set_cons_zero, List.set_cons_succ]))
          (refine wpX_take (i := 6) (v := undef) (by simp only [List.getElem?_toArray, List.getElem?_cons_succ, List.getElem?_cons_zero]; rfl) (by kernel_rfl) (by kernel_rfl) (by kernel_rfl) (by kernel_rfl) (by exact fun _ _ _ h => h) (Or.inr ⟨by rfl, rfl⟩) (by assumption) ?_; (try simp only [Act.put, List.setIfInBounds_toArray, List.set_cons_zero, List.set_cons_succ]))
          (refine wpX_take (i := 7) (v := undef) (by simp only [List.getElem?_toArray, List.getElem?_cons_succ, List.getElem?_cons_zero]; rfl) (by kernel_rfl) (by kernel_rfl) (by kernel_rfl) (by kernel_rfl) (by exact fun _ _ _ h => h) (Or.inr ⟨by rfl, rfl⟩) (by assumption) ?_; (try simp only [Act.put, List.setIfInBounds_toArray, List.set_cons_zero, List.set_cons_succ]))
          (refine wpX_take (i := 8) (v := undef) (by simp only [List.getElem?_toArray, List.getElem?_cons_succ, List.getElem?_cons_zero]; rfl) (by kernel_rfl) (by kernel_rfl) (by kernel_rfl) (by kernel_rfl) (by exact fun _ _ _ h => h) (Or.inr ⟨by rfl, rfl⟩) (by assumption) ?_; (try simp only [Act.put, List.setIfInBounds_toArray, List.set_cons_zero, List.set_cons_succ]))
          (refine wpX_take (i := 9) (v := undef) (by simp only [List.getElem?_toArray, List.getElem?_cons_succ, List.getElem?_cons_zero]; rfl) (by kernel_rfl) (by kernel_rfl) (by kernel_rfl) (by kernel_rfl) (by exact fun _ _ _ h => h) (Or.inr ⟨by rfl, rfl⟩) (by assumption) ?_; (try simp only [Act.put, List.setIfInBounds_toArray, List.set_cons_zero, List.set_cons_succ]))
          (refine wpX_take (i := 10) (v := undef) (by simp only [List.getElem?_toArray, List.getElem?_cons_succ, List.getElem?_cons_zero]; rfl) (by kernel_rfl) (by kernel_rfl) (by kernel_rfl) (by kernel_rfl) (by exact fun _ _ _ h => h) (Or.inr ⟨by rfl, rfl⟩) (by assumption) ?_; (try simp only [Act.put, List.setIfInBounds_toArray, List.set_cons_zero, List.set_cons_succ]))
          (refine wpX_take (i := 11) (v := undef) (by simp only [List.getElem?_toArray, List.getElem?_cons_succ, List.getElem?_cons_zero]; rfl) (by kernel_rfl) (by kernel_rfl) (by kernel_rfl) (by kernel_rfl) (by exact fun _ _ _ h => h) (Or.inr ⟨by rfl, rfl⟩) (by assumption) ?_; (try simp only [Act.put, List.setIfInBounds_toArray, List.set_cons_zero, List.set_cons_succ]))
          (refine wpX_take (i := 12) (v := undef) (by simp only [List.getElem?_toArray, List.getElem?_cons_succ, List.getElem?_cons_zero]; rfl) (by kernel_rfl) (by kernel_rfl) (by kernel_rfl) (by kernel_rfl) (by exact fun _ _ _ h => h) (Or.inr ⟨by rfl, rfl⟩) (by assumption) ?_; (try simp only [Act.put, List.setIfInBounds_toArray, List.set_cons_zero, List.set_cons_succ]))
          (refine wpX_take (i := 13) (v := ?_) (by simp only [List.getElem?_toArray, List.getElem?_cons_succ, List.getElem?_cons_zero]; rfl) (by kernel_rfl) (by kernel_rfl) (by kernel_rfl) (by kernel_rfl) (by exact fun _ _ _ h => h) (Or.inl ⟨by rfl, ?_⟩) (by assumption) ?_; rotate_left; (intro w hSw; (try dsimp only at hSw); go_simp); (try with_reducible rfl); (try simp only [Act.put, List.setIfInBounds_toArray, List.set_cons_zero, List.set_cons_succ]))
          refine wpX_done (by kernel_rfl) ?_ _
          go_wp2_with fail
          go_meet
          exact ⟨rfl, hbD⟩
        | true =>
          (refine wpX_take (i := 4) (v := ?_) (by simp only [List.getElem?_toArray, List.getElem?_cons_succ, List.getElem?_cons_zero]; rfl) (by kernel_rfl) (by kernel_rfl) (by kernel_rfl) (by kernel_rfl) (by exact fun _ _ _ h => h) (Or.inl ⟨by rfl, ?_⟩) (by assumption) ?_; rotate_left; (intro w hSw; (try dsimp only at hSw); go_simp); (try with_reducible rfl); (try simp only [Act.put, List.setIfInBounds_toArray, List.set_cons_zero, List.set_cons_succ]))
          (refine wpX_take (i := 5) (v := ?_) (by simp only [List.getElem?_toArray, List.getElem?_cons_succ, List.getElem?_cons_zero]; rfl) (by kernel_rfl) (by kernel_rfl) (by kernel_rfl) (by kernel_rfl) (by exact fun _ _ _ h => h) (Or.inl ⟨by rfl, ?_⟩) (by assumption) ?_; rotate_left; (intro w hSw; (try dsimp only at hSw); go_simp); (try with_reducible rfl); (try simp only [Act.put, List.setIfInBounds_toArray, List.set_cons_zero, List.set_cons_succ]))
          (refine wpX_take (i := 6) (v := ?_) (by simp only [List.getElem?_toArray, List.getElem?_cons_succ, List.getElem?_cons_zero]; rfl) (by kernel_rfl) (by kernel_rfl) (by kernel_rfl) (by kernel_rfl) (by exact fun _ _ _ h => h) (Or.inl ⟨by rfl, ?_⟩) (by assumption) ?_; rotate_left; (intro w hSw; (try dsimp only at hSw); go_simp); (try with_reducible rfl); (try simp only [Act.put, List.setIfInBounds_toArray, List.set_cons_zero, List.set_cons_succ]))
          (refine wpX_take (i := 7) (v := ?_) (by simp only [List.getElem?_toArray, List.getElem?_cons_succ, List.getElem?_cons_zero]; rfl) (by kernel_rfl) (by kernel_rfl) (by kernel_rfl) (by kernel_rfl) (by exact fun _ _ _ h => h) (Or.inl ⟨by rfl, ?_⟩) (by assumption) ?_; rotate_left; (intro w hSw; (try dsimp only at hSw); go_simp); (try with_reducible rfl); (try simp only [Act.put, List.setIfInBounds_toArray, List.set_cons_zero, List.set_cons_succ]))
          (refine wpX_take (i := 9) (v := ?_) (by simp only [List.getElem?_toArray, List.getElem?_cons_succ, List.getElem?_cons_zero]; rfl) (by kernel_rfl) (by kernel_rfl) (by kernel_rfl) (by kernel_rfl) (by exact fun _ _ _ h => h) (Or.inl ⟨by rfl, ?_⟩) (by assumption) ?_; rotate_left; (intro w hSw; (try dsimp only at hSw); go_simp); (try with_reducible rfl); (try simp only [Act.put, List.setIfInBounds_toArray, List.set_cons_zero, List.set_cons_succ]))
          (refine wpX_take (i := 10) (v := ?_) (by simp only [List.getElem?_toArray, List.getElem?_cons_succ, List.getElem?_cons_zero]; rfl) (by kernel_rfl) (by kernel_rfl) (by kernel_rfl) (by kernel_rfl) (by exact fun _ _ _ h => h) (Or.inl ⟨by rfl, ?_⟩) (by assumption) ?_; rotate_left; (intro w hSw; (try dsimp only at hSw); go_simp); (try with_reducible rfl); (try simp only [Act.put, List.setIfInBounds_toArray, List.set_cons_zero, List.set_cons_succ]))
          refine wpX_one (i := 8) (by kernel_rfl) (by simp only [List.getElem?_toArray, List.getElem?_cons_succ, List.getElem?_cons_zero]; rfl) (fun K hK => ?_)
          go_simp
          refine (implAccepts_any ra _ E ne ce ws _ _ (fun _ => True) hAV8.drew (by exact hW8)).mono ?_
          rintro e wa ⟨rfl, hba⟩
          have hA9 := (show Blk W8.drew _ _ _ from hA8).below hba hA8.lt
          have hP9 := (show Blk W8.drew _ _ _ from hP8).below hba hP8.lt
          have hbaD := hbD.trans hba
          have hPV9 := hPV8.below hbaD
          have hW9 := hW8.below hbaD (fun b _ hl => hl)
          have s8 : (fun w' : World => w'.cell? ⟨w2.heap.size, 0, none⟩ = some (.int .i64 ra.start) ∧ w'.cell? ⟨w2.heap.size, 1, none⟩ = some (.slice A7 nA c7) ∧ w'.cell? ⟨w2.heap.size, 2, none⟩ = some (.slice A8 n8 c8) ∧ w'.cell? ⟨w1.heap.size, 0, none⟩ = some (.slice A5 n5 c5) ∧ w'.cell? ⟨w1.heap.size, 1, none⟩ = some (.int .i64 pf) ∧ w'.cell? ⟨w1.heap.size, 2, none⟩ = some (.int .i64 pl) ∧ w'.cell? ⟨w1.heap.size, 3, none⟩ = some (.slice A6 n6 c6) ∧ w'.cell? ⟨w1.heap.size, 4, none⟩ = some (.bool pb)) wa := ⟨hA9.cell 0, hA9.cell 1, hA9.cell 2, hP9.cell 0, hP9.cell 1, hP9.cell 2, hP9.cell 3, hP9.cell 4⟩
          have HL : Hid (accWB ra ws = matchB pa ws) := Lib.hid (by
            obtain ⟨r, hr⟩ := Option.isSome_iff_exists.1 hio
            have h1 := HR.out
            have h2 := HRA.out
            rw [hr] at h1 h2
            rw [← h2]
            exact det_law h1 hbw.out)
          rw [HL.out]
          (refine hK.out _ _ (Or.inr s8) ?_; clear hK; (try simp only [Act.put, List.setIfInBounds_toArray, List.set_cons_zero, List.set_cons_succ]))
          refine wpX_one (i := 11) (by kernel_rfl) (by simp only [List.getElem?_toArray, List.getElem?_cons_succ, List.getElem?_cons_zero]; rfl) (fun K hK => ?_)
          go_simp
          refine (match_any pa _ E ne ce ws _ _ (fun _ => True) hPV9 (by exact hW9)).mono ?_
          rintro e wb ⟨rfl, hbb⟩
          have hA10 := hA9.below hbb hA9.lt
          have hP10 := hP9.below hbb hP9.lt
          have s11 : (fun w' : World => w'.cell? ⟨w2.heap.size, 0, none⟩ = some (.int .i64 ra.start) ∧ w'.cell? ⟨w2.heap.size, 1, none⟩ = some (.slice A7 nA c7) ∧ w'.cell? ⟨w2.heap.size, 2, none⟩ = some (.slice A8 n8 c8) ∧ w'.cell? ⟨w1.heap.size, 0, none⟩ = some (.slice A5 n5 c5) ∧ w'.cell? ⟨w1.heap.size, 1, none⟩ = some (.int .i64 pf) ∧ w'.cell? ⟨w1.heap.size, 2, none⟩ = some (.int .i64 pl) ∧ w'.cell? ⟨w1.heap.size, 3, none⟩ = some (.slice A6 n6 c6) ∧ w'.cell? ⟨w1.heap.size, 4, none⟩ = some (.bool pb)) wb := ⟨hA10.cell 0, hA10.cell 1, hA10.cell 2, hP10.cell 0, hP10.cell 1, hP10.cell 2, hP10.cell 3, hP10.cell 4⟩
          (refine hK.out _ _ (Or.inr s11) ?_; clear hK; (try simp only [Act.put, List.setIfInBounds_toArray, List.set_cons_zero, List.set_cons_succ]))
          generalize matchB pa ws = mm
          (refine wpX_take (i := 12) (v := ?_) (by simp only [List.getElem?_toArray, List.getElem?_cons_succ, List.getElem?_cons_zero]; rfl) (by kernel_rfl) (by kernel_rfl) (by kernel_rfl) (by kernel_rfl) (by exact fun _ _ _ h => h) (Or.inl ⟨by rfl, ?_⟩) (by assumption) ?_; rotate_left; (intro w hSw; (try dsimp only at hSw); go_simp); (try with_reducible rfl); (try simp only [Act.put, List.setIfInBounds_toArray, List.set_cons_zero, List.set_cons_succ]))
          (refine wpX_take (i := 13) (v := ?_) (by simp only [List.getElem?_toArray, List.getElem?_cons_succ, List.getElem?_cons_zero]; rfl) (by kernel_rfl) (by kernel_rfl) (by kernel_rfl) (by kernel_rfl) (by exact fun _ _ _ h => h) (Or.inl ⟨by rfl, ?_⟩) (by assumption) ?_; rotate_left; (intro w hSw; (try dsimp only at hSw); go_simp); (try with_reducible rfl); (try simp only [Act.put, List.setIfInBounds_toArray, List.set_cons_zero, List.set_cons_succ]))
          refine wpX_done (by kernel_rfl) ?_ _
          go_wp2_with fail
          go_meet
          exact ⟨by first | rfl | simp, hbaD.trans (hbb.mono hbaD.size)⟩
    case rest =>
      obtain ⟨rfl, hb9⟩ := hcut
      have hbwc : Below w.heap.size w wc := hbw8.trans (hb9.mono hbw8.size)
      have hWc := hW8.below hb9 (fun b _ hl => hl)
      have hSc := (h.below hbwc (fun b hb _ => hb)).weak (q := (· < wc.heap.size)) (fun b hb hl => hl)
      clear hA8 hAV8 hP8 hPV8 hbw8 hW8 hb9
      go_wp2_with fail
      refine (drawTrim_any A n c xs _ hSc).mono ?_
      rintro e w10 ⟨v10, ca, rfl, hC, hb10⟩
      have hbw10 : Below w.heap.size w w10 := hbwc.trans (hb10.mono hbwc.size)
      have hW10 := hWc.below hb10 (fun b _ hl => hl)
      have hCV := hC.aut.weak (q := fun _ => True) (fun _ _ _ => trivial)
      obtain ⟨C1, c1, C2, n2, c2, rfl⟩ := hCV.form
      generalize hnc : ca.n = nc at *
      obtain ⟨O11, hO11⟩ : ∃ O11, O11 = Obj.cells #[.int .i64 ca.start, .slice C1 nc c1, .slice C2 n2 c2] 31 := ⟨_, rfl⟩
      have hB11 : Blk (w10.alloc O11) w10.heap.size 31 #[.int .i64 ca.start, .slice C1 nc c1, .slice C2 n2 c2] := by rw [hO11]; exact Blk.new _ _ _
      have hCV11 := hCV.alloc O11
      have hW11 := hW10.al O11
      have hbw11 : Below w.heap.size w (w10.alloc O11) := hbw10.trans ((below_alloc w10 O11).mono hbw10.size)
      obtain ⟨W11, hW11e⟩ : ∃ W11, W11 = w10.alloc O11 := ⟨_, rfl⟩
      rw [← hW11e] at hB11 hCV11 hW11 hbw11
      rw [hO11] at hW11e
      clear hO11 hSc hWc hbwc hC hb10 hCV hW10 hbw10
      go_wp2_with fail
      rw [← hW11e]
      clear hW11e
      refine (implTrim_any ca _ _ _ hCV11).mono ?_
      rintro e w12 ⟨v12, rfl, hT, hb12⟩
      rw [trimIT_same] at hT
      obtain ⟨T1, t1, T2, tn, t2, rfl⟩ := hT.form
      have hB12 := hB11.below hb12 hB11.lt
      have hCV12 := hCV11.below hb12
      have hW12 := hW11.below hb12 (fun b _ hl => hl)
      have hbw12 : Below w.heap.size w w12 := hbw11.trans (hb12.mono hbw11.size)
      generalize hta : trimST ca = ta at *
      generalize htn : ta.n = nt at *
      obtain ⟨O13, hO13⟩ : ∃ O13, O13 = Obj.cells #[.int .i64 ta.start, .slice T1 nt t1, .slice T2 tn t2] 31 := ⟨_, rfl⟩
      have hT13 : Blk (w12.alloc O13) w12.heap.size 31 #[.int .i64 ta.start, .slice T1 nt t1, .slice T2 tn t2] := by rw [hO13]; exact Blk.new _ _ _
      have hTV13 := hT.alloc O13
      have hB13 := hB12.alloc O13
      have hCV13 := hCV12.alloc O13
      have hW13 := hW12.al O13
      have hbw13 : Below w.heap.size w (w12.alloc O13) := hbw12.trans ((below_alloc w12 O13).mono hbw12.size)
      have x0 := hB12.cell 0; have x1 := hB12.cell 1; have x2 := hB12.cell 2
      have xl := hB12.lt
      simp at x0 x1 x2
      obtain ⟨W13, hW13e⟩ : ∃ W13, W13 = w12.alloc O13 := ⟨_, rfl⟩
      rw [← hW13e] at hT13 hTV13 hB13 hCV13 hW13 hbw13
      rw [hO13] at hW13e
      clear hO13 hT hB11 hCV11 hW11 hbw11 hb12 hB12 hCV12 hW12 hbw12
      go_wp2_with fail
      rw [← hW13e]
      clear hW13e x0 x1 x2 xl
      refine (implMin_any ca _ _ _ hCV13).mono ?_
      rintro e w14 ⟨v14, rfl, hM, hb14⟩
      rw [minIT_same] at hM
      obtain ⟨M1, m1, M2, mn, m2, rfl⟩ := hM.form
      have hT14 := hT13.below hb14 hT13.lt
      have hTV14 := hTV13.below hb14
      have hB14 := hB13.below hb14 hB13.lt
      have hCV14 := hCV13.below hb14
      have hW14 := hW13.below hb14 (fun b _ hl => hl)
      have hbw14 : Below w.heap.size w w14 := hbw13.trans (hb14.mono hbw13.size)
      generalize hma : minST ca = ma at *
      generalize hmn : ma.n = nm at *
      obtain ⟨O15, hO15⟩ : ∃ O15, O15 = Obj.cells #[.int .i64 ma.start, .slice M1 nm m1, .slice M2 mn m2] 31 := ⟨_, rfl⟩
      have hM15 : Blk (w14.alloc O15) w14.heap.size 31 #[.int .i64 ma.start, .slice M1 nm m1, .slice M2 mn m2] := by rw [hO15]; exact Blk.new _ _ _
      have hMV15 := hM.alloc O15
      have hT15 := hT14.alloc O15
      have hTV15 := hTV14.alloc O15
      have hB15 := hB14.alloc O15
      have hCV15 := hCV14.alloc O15
      have hW15 := hW14.al O15
      have hbw15 : Below w.heap.size w (w14.alloc O15) := hbw14.trans ((below_alloc w14 O15).mono hbw14.size)
      obtain ⟨W15, hW15e⟩ : ∃ W15, W15 = w14.alloc O15 := ⟨_, rfl⟩
      rw [← hW15e] at hM15 hMV15 hT15 hTV15 hB15 hCV15 hW15 hbw15
      rw [hO15] at hW15e
      clear hO15 hM hT13 hTV13 hB13 hCV13 hW13 hbw13 hb14 hT14 hTV14 hB14 hCV14 hW14 hbw14
      have HT := Lib.hid (And.intro hta htn)
      have HM := Lib.hid (And.intro hma hmn)
      have HC := Lib.hid hnc
      clear hta htn hma hmn hnc
      go_upto_region 14 with fail
      rw [← hW15e]
      clear hW15e
      go_cut [81] (fun v81 wx => v81 = .bool false ∧ Below W15.heap.size W15 wx)
      case first =>
        have h3 : Three W15.drew w10.heap.size w12.heap.size w14.heap.size #[.int .i64 ca.start, .slice C1 nc c1, .slice C2 n2 c2] #[.int .i64 ta.start, .slice T1 nt t1, .slice T2 tn t2] #[.int .i64 ma.start, .slice M1 nm m1, .slice M2 mn m2] := ⟨hB15, hT15, hM15⟩
        have hbD : Below W15.heap.size W15 W15.drew := (Below.refl _ _).drew
        have hS0 : (fun w' : World => w'.cell? ⟨w10.heap.size, 0, none⟩ = some (.int .i64 ca.start) ∧ w'.cell? ⟨w10.heap.size, 1, none⟩ = some (.slice C1 nc c1) ∧ w'.cell? ⟨w10.heap.size, 2, none⟩ = some (.slice C2 n2 c2) ∧ w'.cell? ⟨w12.heap.size, 0, none⟩ = some (.int .i64 ta.start) ∧ w'.cell? ⟨w12.heap.size, 1, none⟩ = some (.slice T1 nt t1) ∧ w'.cell? ⟨w12.heap.size, 2, none⟩ = some (.slice T2 tn t2) ∧ w'.cell? ⟨w14.heap.size, 0, none⟩ = some (.int .i64 ma.start) ∧ w'.cell? ⟨w14.heap.size, 1, none⟩ = some (.slice M1 nm m1) ∧ w'.cell? ⟨w14.heap.size, 2, none⟩ = some (.slice M2 mn m2)) W15.drew := h3.cells
        have hbz := Lib.hid hbw15
        clear hbw15 hB15 hT15 hM15
        refine wp_region_X (fun w' : World => w'.cell? ⟨w10.heap.size, 0, none⟩ = some (.int .i64 ca.start) ∧ w'.cell? ⟨w10.heap.size, 1, none⟩ = some (.slice C1 nc c1) ∧ w'.cell? ⟨w10.heap.size, 2, none⟩ = some (.slice C2 n2 c2) ∧ w'.cell? ⟨w12.heap.size, 0, none⟩ = some (.int .i64 ta.start) ∧ w'.cell? ⟨w12.heap.size, 1, none⟩ = some (.slice T1 nt t1) ∧ w'.cell? ⟨w12.heap.size, 2, none⟩ = some (.slice T2 tn t2) ∧ w'.cell? ⟨w14.heap.size, 0, none⟩ = some (.int .i64 ma.start) ∧ w'.cell? ⟨w14.heap.size, 1, none⟩ = some (.slice M1 nm m1) ∧ w'.cell? ⟨w14.heap.size, 2, none⟩ = some (.slice M2 mn m2)) 1000 (by kernel_rfl) ?_
        (refine wpX_take (i := 0) (v := ?_) (by simp only [List.getElem?_toArray, List.getElem?_cons_succ, List.getElem?_cons_zero]; rfl) (by kernel_rfl) (by kernel_rfl) (by kernel_rfl) (by kernel_rfl) (by exact fun _ _ _ h => h) (Or.inl ⟨by rfl, ?_⟩) (by assumption) ?_; rotate_left; (intro w hSw; (try dsimp only at hSw); go_simp); (try with_reducible rfl); (try simp only [Act.put, List.setIfInBounds_toArray, List.set_cons_zero, List.set_cons_succ]))
        (refine wpX_take (i := 1) (v := ?_) (by simp only [List.getElem?_toArray, List.getElem?_cons_succ, List.getElem?_cons_zero]; rfl) (by kernel_rfl) (by kernel_rfl) (by kernel_rfl) (by kernel_rfl) (by exact fun _ _ _ h => h) (Or.inl ⟨by rfl, ?_⟩) (by assumption) ?_; rotate_left; (intro w hSw; (try dsimp only at hSw); go_simp); (try with_reducible rfl); (try simp only [Act.put, List.setIfInBounds_toArray, List.set_cons_zero, List.set_cons_succ]))
        refine wpX_one (i := 2) (by kernel_rfl) (by simp only [List.getElem?_toArray, List.getElem?_cons_succ, List.getElem?_cons_zero]; rfl) (fun K hK => ?_)
        go_simp
        refine (specTrim_any ca _ _ _ hCV15.drew).mono ?_
        rintro e wa ⟨va, rfl, hTa, hba⟩
        rw [HT.out.1] at hTa
        have h3a := h3.below hba
        have hbA := hbD.trans hba
        have sa : (fun w' : World => w'.cell? ⟨w10.heap.size, 0, none⟩ = some (.int .i64 ca.start) ∧ w'.cell? ⟨w10.heap.size, 1, none⟩ = some (.slice C1 nc c1) ∧ w'.cell? ⟨w10.heap.size, 2, none⟩ = some (.slice C2 n2 c2) ∧ w'.cell? ⟨w12.heap.size, 0, none⟩ = some (.int .i64 ta.start) ∧ w'.cell? ⟨w12.heap.size, 1, none⟩ = some (.slice T1 nt t1) ∧ w'.cell? ⟨w12.heap.size, 2, none⟩ = some (.slice T2 tn t2) ∧ w'.cell? ⟨w14.heap.size, 0, none⟩ = some (.int .i64 ma.start) ∧ w'.cell? ⟨w14.heap.size, 1, none⟩ = some (.slice M1 nm m1) ∧ w'.cell? ⟨w14.heap.size, 2, none⟩ = some (.slice M2 mn m2)) wa := h3a.cells
        (refine hK.out _ _ (Or.inr sa) ?_; clear hK; (try simp only [Act.put, List.setIfInBounds_toArray, List.set_cons_zero, List.set_cons_succ]))
        refine wpX_one (i := 3) (by kernel_rfl) (by simp only [List.getElem?_toArray, List.getElem?_cons_succ, List.getElem?_cons_zero]; rfl) (fun K hK => ?_)
        go_simp
        have heqt : eqA ta ta = true := eqA_iff.2 rfl
        refine (specEqAut_any ta ta _ _ _ _ _ (hTV15.below hbA) hTa).mono ?_
        rintro e wb ⟨rfl, hbb⟩
        rw [heqt]
        clear heqt hTa
        have h3b := h3a.below hbb
        have hbB := hbA.trans (hbb.mono hbA.size)
        have sb : (fun w' : World => w'.cell? ⟨w10.heap.size, 0, none⟩ = some (.int .i64 ca.start) ∧ w'.cell? ⟨w10.heap.size, 1, none⟩ = some (.slice C1 nc c1) ∧ w'.cell? ⟨w10.heap.size, 2, none⟩ = some (.slice C2 n2 c2) ∧ w'.cell? ⟨w12.heap.size, 0, none⟩ = some (.int .i64 ta.start) ∧ w'.cell? ⟨w12.heap.size, 1, none⟩ = some (.slice T1 nt t1) ∧ w'.cell? ⟨w12.heap.size, 2, none⟩ = some (.slice T2 tn t2) ∧ w'.cell? ⟨w14.heap.size, 0, none⟩ = some (.int .i64 ma.start) ∧ w'.cell? ⟨w14.heap.size, 1, none⟩ = some (.slice M1 nm m1) ∧ w'.cell? ⟨w14.heap.size, 2, none⟩ = some (.slice M2 mn m2)) wb := h3b.cells
        (refine hK.out _ _ (Or.inr sb) ?_; clear hK; (try simp only [Act.put, List.setIfInBounds_toArray, List.set_cons_zero, List.set_cons_succ]))
        (refine wpX_take (i := 4) (v := ?_) (by simp only [List.getElem?_toArray, List.getElem?_cons_succ, List.getElem?_cons_zero]; rfl) (by kernel_rfl) (by kernel_rfl) (by kernel_rfl) (by kernel_rfl) (by exact fun _ _ _ h => h) (Or.inl ⟨by rfl, ?_⟩) (by assumption) ?_; rotate_left; (intro w hSw; (try dsimp only at hSw); go_simp); (try with_reducible rfl); (try simp only [Act.put, List.setIfInBounds_toArray, List.set_cons_zero, List.set_cons_succ]))
        (refine wpX_take (i := 5) (v := ?_) (by simp only [List.getElem?_toArray, List.getElem?_cons_succ, List.getElem?_cons_zero]; rfl) (by kernel_rfl) (by kernel_rfl) (by kernel_rfl) (by kernel_rfl) (by exact fun _ _ _ h => h) (Or.inl ⟨by rfl, ?_⟩) (by assumption) ?_; rotate_left; (intro w hSw; (try dsimp only at hSw); go_simp); (try with_reducible rfl); (try simp only [Act.put, List.setIfInBounds_toArray, List.set_cons_zero, List.set_cons_succ]))
        (refine wpX_take (i := 6) (v := ?_) (by simp only [List.getElem?_toArray, List.getElem?_cons_succ, List.getElem?_cons_zero]; rfl) (by kernel_rfl) (by kernel_rfl) (by kernel_rfl) (by kernel_rfl) (by exact fun _ _ _ h => h) (Or.inl ⟨by rfl, ?_⟩) (by assumption) ?_; rotate_left; (intro w hSw; (try dsimp only at hSw); go_simp); (try with_reducible rfl); (try simp only [Act.put, List.setIfInBounds_toArray, List.set_cons_zero, List.set_cons_succ]))
        (refine wpX_take (i := 7) (v := ?_) (by simp only [List.getElem?_toArray, List.getElem?_cons_succ, List.getElem?_cons_zero]; rfl) (by kernel_rfl) (by kernel_rfl) (by kernel_rfl) (by kernel_rfl) (by exact fun _ _ _ h => h) (Or.inl ⟨by rfl, ?_⟩) (by assumption) ?_; rotate_left; (intro w hSw; (try dsimp only at hSw); go_simp); (try with_reducible rfl); (try simp only [Act.put, List.setIfInBounds_toArray, List.set_cons_zero, List.set_cons_succ]))
        refine wpX_one (i := 8) (by kernel_rfl) (by simp only [List.getElem?_toArray, List.getElem?_cons_succ, List.getElem?_cons_zero]; rfl) (fun K hK => ?_)
        go_simp
        refine (specMin_any ca _ _ _ (hCV15.below hbB)).mono ?_
        rintro e wd ⟨vd, rfl, hMd, hbd2⟩
        rw [HM.out.1] at hMd
        have h3d := h3b.below hbd2
        have hbDd := hbB.trans (hbd2.mono hbB.size)
        have sd : (fun w' : World => w'.cell? ⟨w10.heap.size, 0, none⟩ = some (.int .i64 ca.start) ∧ w'.cell? ⟨w10.heap.size, 1, none⟩ = some (.slice C1 nc c1) ∧ w'.cell? ⟨w10.heap.size, 2, none⟩ = some (.slice C2 n2 c2) ∧ w'.cell? ⟨w12.heap.size, 0, none⟩ = some (.int .i64 ta.start) ∧ w'.cell? ⟨w12.heap.size, 1, none⟩ = some (.slice T1 nt t1) ∧ w'.cell? ⟨w12.heap.size, 2, none⟩ = some (.slice T2 tn t2) ∧ w'.cell? ⟨w14.heap.size, 0, none⟩ = some (.int .i64 ma.start) ∧ w'.cell? ⟨w14.heap.size, 1, none⟩ = some (.slice M1 nm m1) ∧ w'.cell? ⟨w14.heap.size, 2, none⟩ = some (.slice M2 mn m2)) wd := h3d.cells
        (refine hK.out _ _ (Or.inr sd) ?_; clear hK; (try simp only [Act.put, List.setIfInBounds_toArray, List.set_cons_zero, List.set_cons_succ]))
        refine wpX_one (i := 9) (by kernel_rfl) (by simp only [List.getElem?_toArray, List.getElem?_cons_succ, List.getElem?_cons_zero]; rfl) (fun K hK => ?_)
        go_simp
        have heqm : eqA ma ma = true := eqA_iff.2 rfl
        refine (specEqAut_any ma ma _ _ _ _ _ (hMV15.below hbDd) hMd).mono ?_
        rintro e we ⟨rfl, hbe⟩
        rw [heqm]
        clear heqm hMd
        have h3e := h3d.below hbe
        have hbE := hbDd.trans (hbe.mono hbDd.size)
        have se : (fun w' : World => w'.cell? ⟨w10.heap.size, 0, none⟩ = some (.int .i64 ca.start) ∧ w'.cell? ⟨w10.heap.size, 1, none⟩ = some (.slice C1 nc c1) ∧ w'.cell? ⟨w10.heap.size, 2, none⟩ = some (.slice C2 n2 c2) ∧ w'.cell? ⟨w12.heap.size, 0, none⟩ = some (.int .i64 ta.start) ∧ w'.cell? ⟨w12.heap.size, 1, none⟩ = some (.slice T1 nt t1) ∧ w'.cell? ⟨w12.heap.size, 2, none⟩ = some (.slice T2 tn t2) ∧ w'.cell? ⟨w14.heap.size, 0, none⟩ = some (.int .i64 ma.start) ∧ w'.cell? ⟨w14.heap.size, 1, none⟩ = some (.slice M1 nm m1) ∧ w'.cell? ⟨w14.heap.size, 2, none⟩ = some (.slice M2 mn m2)) we := h3e.cells
        (refine hK.out _ _ (Or.inr se) ?_; clear hK; (try simp only [Act.put, List.setIfInBounds_toArray, List.set_cons_zero, List.set_cons_succ]))
        (refine wpX_take (i := 10) (v := ?_) (by simp only [List.getElem?_toArray, List.getElem?_cons_succ, List.getElem?_cons_zero]; rfl) (by kernel_rfl) (by kernel_rfl) (by kernel_rfl) (by kernel_rfl) (by exact fun _ _ _ h => h) (Or.inl ⟨by rfl, ?_⟩) (by assumption) ?_; rotate_left; (intro w hSw; (try dsimp only at hSw); go_simp); (try with_reducible rfl); (try simp only [Act.put, List.setIfInBounds_toArray, List.set_cons_zero, List.set_cons_succ]))
        (refine wpX_take (i := 11) (v := ?_) (by simp only [List.getElem?_toArray, List.getElem?_cons_succ, List.getElem?_cons_zero]; rfl) (by kernel_rfl) (by kernel_rfl) (by kernel_rfl) (by kernel_rfl) (by exact fun _ _ _ h => h) (Or.inl ⟨by rfl, ?_⟩) (by assumption) ?_; rotate_left; (intro w hSw; (try dsimp only at hSw); go_simp); (try with_reducible rfl); (try simp only [Act.put, List.setIfInBounds_toArray, List.set_cons_zero, List.set_cons_succ]))
        (refine wpX_take (i := 12) (v := ?_) (by simp only [List.getElem?_toArray, List.getElem?_cons_succ, List.getElem?_cons_zero]; rfl) (by kernel_rfl) (by kernel_rfl) (by kernel_rfl) (by kernel_rfl) (by exact fun _ _ _ h => h) (Or.inl ⟨by rfl, ?_⟩) (by assumption) ?_; rotate_left; (intro w hSw; (try dsimp only at hSw); go_simp); (try with_reducible rfl); (try simp only [Act.put, List.setIfInBounds_toArray, List.set_cons_zero, List.set_cons_succ]))
        (refine wpX_take (i := 13) (v := ?_) (by simp only [List.getElem?_toArray, List.getElem?_cons_succ, List.getElem?_cons_zero]; rfl) (by kernel_rfl) (by kernel_rfl) (by kernel_rfl) (by kernel_rfl) (by exact fun _ _ _ h => h) (Or.inl ⟨by rfl, ?_⟩) (by assumption) ?_; rotate_left; (intro w hSw; (try dsimp only at hSw); go_simp); (try with_reducible rfl); (try simp only [Act.put, List.setIfInBounds_toArray, List.set_cons_zero, List.set_cons_succ]))
        (refine wpX_take (i := 14) (v := ?_) (by simp only [List.getElem?_toArray, List.getElem?_cons_succ, List.getElem?_cons_zero]; rfl) (by kernel_rfl) (by kernel_rfl) (by kernel_rfl) (by kernel_rfl) (by exact fun _ _ _ h => h) (Or.inl ⟨by rfl, ?_⟩) (by assumption) ?_; rotate_left; (intro w hSw; (try dsimp only at hSw); go_simp); (try with_reducible rfl); (try simp only [Act.put, List.setIfInBounds_toArray, List.set_cons_zero, List.set_cons_succ]))
        (refine wpX_take (i := 16) (v := ?_) (by simp only [List.getElem?_toArray, List.getElem?_cons_succ, List.getElem?_cons_zero]; rfl) (by kernel_rfl) (by kernel_rfl) (by kernel_rfl) (by kernel_rfl) (by exact fun _ _ _ h => h) (Or.inl ⟨by rfl, ?_⟩) (by assumption) ?_; rotate_left; (intro w hSw; (try dsimp only at hSw); go_simp); (try with_reducible rfl); (try simp only [Act.put, List.setIfInBounds_toArray, List.set_cons_zero, List.set_cons_succ]))
        (refine wpX_take (i := 17) (v := ?_) (by simp only [List.getElem?_toArray, List.getElem?_cons_succ, List.getElem?_cons_zero]; rfl) (by kernel_rfl) (by kernel_rfl) (by kernel_rfl) (by kernel_rfl) (by exact fun _ _ _ h => h) (Or.inl ⟨by rfl, ?_⟩) (by assumption) ?_; rotate_left; (intro w hSw; (try dsimp only at hSw); go_simp); (try with_reducible rfl); (try simp only [Act.put, List.setIfInBounds_toArray, List.set_cons_zero, List.set_cons_succ]))
        refine wpX_one (i := 15) (by kernel_rfl) (by simp only [List.getElem?_toArray, List.getElem?_cons_succ, List.getElem?_cons_zero]; rfl) (fun K hK => ?_)
        go_simp
        refine (implRun_any ca _ E ne ce ws _ _ (fun _ => True) (hCV15.below hbE) (hW15.below hbE (fun b _ hl => hl))).mono ?_
        rintro e wf ⟨rfl, hbf⟩
        have h3f := h3e.below hbf
        have hbF := hbE.trans (hbf.mono hbE.size)
        have sf : (fun w' : World => w'.cell? ⟨w10.heap.size, 0, none⟩ = some (.int .i64 ca.start) ∧ w'.cell? ⟨w10.heap.size, 1, none⟩ = some (.slice C1 nc c1) ∧ w'.cell? ⟨w10.heap.size, 2, none⟩ = some (.slice C2 n2 c2) ∧ w'.cell? ⟨w12.heap.size, 0, none⟩ = some (.int .i64 ta.start) ∧ w'.cell? ⟨w12.heap.size, 1, none⟩ = some (.slice T1 nt t1) ∧ w'.cell? ⟨w12.heap.size, 2, none⟩ = some (.slice T2 tn t2) ∧ w'.cell? ⟨w14.heap.size, 0, none⟩ = some (.int .i64 ma.start) ∧ w'.cell? ⟨w14.heap.size, 1, none⟩ = some (.slice M1 nm m1) ∧ w'.cell? ⟨w14.heap.size, 2, none⟩ = some (.slice M2 mn m2)) wf := h3f.cells
        (refine hK.out _ _ (Or.inr sf) ?_; clear hK; (try simp only [Act.put, List.setIfInBounds_toArray, List.set_cons_zero, List.set_cons_succ]))
        refine wpX_one (i := 18) (by kernel_rfl) (by simp only [List.getElem?_toArray, List.getElem?_cons_succ, List.getElem?_cons_zero]; rfl) (fun K hK => ?_)
        go_simp
        refine (specRun_any ca _ E ne ce ws _ _ (fun _ => True) (hCV15.below hbF) (hW15.below hbF (fun b _ hl => hl))).mono ?_
        rintro e wg ⟨rfl, hbg⟩
        have h3g := h3f.below hbg
        have hbG := hbF.trans (hbg.mono hbF.size)
        have sg : (fun w' : World => w'.cell? ⟨w10.heap.size, 0, none⟩ = some (.int .i64 ca.start) ∧ w'.cell? ⟨w10.heap.size, 1, none⟩ = some (.slice C1 nc c1) ∧ w'.cell? ⟨w10.heap.size, 2, none⟩ = some (.slice C2 n2 c2) ∧ w'.cell? ⟨w12.heap.size, 0, none⟩ = some (.int .i64 ta.start) ∧ w'.cell? ⟨w12.heap.size, 1, none⟩ = some (.slice T1 nt t1) ∧ w'.cell? ⟨w12.heap.size, 2, none⟩ = some (.slice T2 tn t2) ∧ w'.cell? ⟨w14.heap.size, 0, none⟩ = some (.int .i64 ma.start) ∧ w'.cell? ⟨w14.heap.size, 1, none⟩ = some (.slice M1 nm m1) ∧ w'.cell? ⟨w14.heap.size, 2, none⟩ = some (.slice M2 mn m2)) wg := h3g.cells
        (refine hK.out _ _ (Or.inr sg) ?_; clear hK; (try simp only [Act.put, List.setIfInBounds_toArray, List.set_cons_zero, List.set_cons_succ]))
        generalize runWB ca ws = rw_
        (refine wpX_take (i := 19) (v := ?_) (by simp only [List.getElem?_toArray, List.getElem?_cons_succ, List.getElem?_cons_zero]; rfl) (by kernel_rfl) (by kernel_rfl) (by kernel_rfl) (by kernel_rfl) (by exact fun _ _ _ h => h) (Or.inl ⟨by rfl, ?_⟩) (by assumption) ?_; rotate_left; (intro w hSw; (try dsimp only at hSw); go_simp); (try with_reducible rfl); (try simp only [Act.put, List.setIfInBounds_toArray, List.set_cons_zero, List.set_cons_succ]))
        (refine wpX_take (i := 20) (v := ?_) (by simp only [List.getElem?_toArray, List.getElem?_cons_succ, List.getElem?_cons_zero]; rfl) (by kernel_rfl) (by kernel_rfl) (by kernel_rfl) (by kernel_rfl) (by exact fun _ _ _ h => h) (Or.inl ⟨by rfl, ?_⟩) (by assumption) ?_; rotate_left; (intro w hSw; (try dsimp only at hSw); go_simp); (try with_reducible rfl); (try simp only [Act.put, List.setIfInBounds_toArray, List.set_cons_zero, List.set_cons_succ]))
        refine wpX_done (by kernel_rfl) ?_ _
        go_wp2_with fail
        go_meet
        exact ⟨by first | rfl | simp, hbG⟩
      case rest =>
        obtain ⟨rfl, hb16⟩ := hcut
        have h3 : Three wc w10.heap.size w12.heap.size w14.heap.size #[.int .i64 ca.start, .slice C1 nc c1, .slice C2 n2 c2] #[.int .i64 ta.start, .slice T1 nt t1, .slice T2 tn t2] #[.int .i64 ma.start, .slice M1 nm m1, .slice M2 mn m2] := (⟨hB15, hT15, hM15⟩ : Three W15 w10.heap.size w12.heap.size w14.heap.size #[.int .i64 ca.start, .slice C1 nc c1, .slice C2 n2 c2] #[.int .i64 ta.start, .slice T1 nt t1, .slice T2 tn t2] #[.int .i64 ma.start, .slice M1 nm m1, .slice M2 mn m2]).below hb16
        have hCVc := hCV15.below hb16
        have hTVc := hTV15.below hb16
        have hMVc := hMV15.below hb16
        have hWc := hW15.below hb16 (fun b _ hl => hl)
        have hbwc := Lib.hid (hbw15.trans (hb16.mono hbw15.size))
        clear hB15 hT15 hM15 hCV15 hTV15 hMV15 hW15 hbw15 hb16
        have x0 := h3.a.cell 0; have x1 := h3.a.cell 1; have x2 := h3.a.cell 2
        simp at x0 x1 x2
        go_wp2_with fail
        refine (specValid_any ca _ _ _ hCVc).mono ?_
        rintro e wd ⟨rfl, hbd2⟩
        have h3d := h3.below hbd2
        have hCVd := hCVc.below hbd2
        have hTVd := hTVc.below hbd2
        have hMVd := hMVc.below hbd2
        have hWd := hWc.below hbd2 (fun b _ hl => hl)
        have hbwd := Lib.hid (hbwc.out.trans (hbd2.mono hbwc.out.size))
        clear h3 hCVc hTVc hMVc hWc hbwc hbd2 x0 x1 x2
        obtain ⟨bv, hbv⟩ : ∃ bv, Hid (validB ca = bv) := ⟨_, Lib.hid rfl⟩
        rw [hbv.out]
        cases bv with
        | false =>
          have ht0 : nt = 0 := by
            rw [← HT.out.2, ← HT.out.1]
            unfold trimST
            rw [if_neg (by rw [hbv.out]; simp)]
            rfl
          have hm0 : nm = 0 := by
            rw [← HM.out.2, ← HM.out.1]
            unfold minST
            rw [if_neg (by rw [hbv.out]; simp)]
            rfl
          subst ht0 hm0
          have y1 := h3d.b.cell 1
          have z1 := h3d.c.cell 1
          simp at y1 z1
          go_wp2_with fail
          go_ret
          exact ⟨rfl, hbwd.out⟩
        | true =>
          have hv : validB ca = true := hbv.out
          obtain ⟨hn12, hf⟩ := validB_iff.1 hv
          have eT : trimST ca = trimS ca := by unfold trimST; rw [if_pos hv]
          have eM : minST ca = minS ca := by unfold minST; rw [if_pos hv]
          have HLT : Hid (accWB ta ws = accWB ca ws) := Lib.hid (by rw [← HT.out.1]; exact trimST_lang hv ws)
          have HLM : Hid (accWB ma ws = accWB ca ws) := Lib.hid (by rw [← HM.out.1]; exact minST_lang hv ws)
          have hmt : (nm : Int) ≤ (nt : Int) := by
            have := min_le_trim hf
            rw [← HM.out.2, ← HT.out.2, ← HM.out.1, ← HT.out.1, eT, eM]
            omega
          have HMM : Hid (isMinB ma = true) := Lib.hid (by rw [← HM.out.1, eM]; exact min_min hf hn12)
          have HVM : Hid (validB ma = true) := Lib.hid (by rw [← HM.out.1, eM]; exact min_valid hv)
          have HBIS : Hid (∃ Q : Int → Int → Prop, Bis ca ma Q ∧ Q ca.start ma.start) := Lib.hid (by
            obtain ⟨Q, h1, h2, _⟩ := num_bis (cong_cls hf) hf
            rw [← HM.out.1, eM]
            exact ⟨Q, h1, h2⟩)
          have HV := Lib.hid hv
          clear hv hn12 hf eT eM
          go_upto_region 18 with fail
          have h3' : Three wd.drew w10.heap.size w12.heap.size w14.heap.size #[.int .i64 ca.start, .slice C1 nc c1, .slice C2 n2 c2] #[.int .i64 ta.start, .slice T1 nt t1, .slice T2 tn t2] #[.int .i64 ma.start, .slice M1 nm m1, .slice M2 mn m2] := ⟨h3d.a, h3d.b, h3d.c⟩
          have hbD : Below wd.heap.size wd wd.drew := (Below.refl _ _).drew
          have hS0 : (fun w' : World => w'.cell? ⟨w10.heap.size, 0, none⟩ = some (.int .i64 ca.start) ∧ w'.cell? ⟨w10.heap.size, 1, none⟩ = some (.slice C1 nc c1) ∧ w'.cell? ⟨w10.heap.size, 2, none⟩ = some (.slice C2 n2 c2) ∧ w'.cell? ⟨w12.heap.size, 0, none⟩ = some (.int .i64 ta.start) ∧ w'.cell? ⟨w12.heap.size, 1, none⟩ = some (.slice T1 nt t1) ∧ w'.cell? ⟨w12.heap.size, 2, none⟩ = some (.slice T2 tn t2) ∧ w'.cell? ⟨w14.heap.size, 0, none⟩ = some (.int .i64 ma.start) ∧ w'.cell? ⟨w14.heap.size, 1, none⟩ = some (.slice M1 nm m1) ∧ w'.cell? ⟨w14.heap.size, 2, none⟩ = some (.slice M2 mn m2)) wd.drew := h3'.cells
          refine wp_region_X (fun w' : World => w'.cell? ⟨w10.heap.size, 0, none⟩ = some (.int .i64 ca.start) ∧ w'.cell? ⟨w10.heap.size, 1, none⟩ = some (.slice C1 nc c1) ∧ w'.cell? ⟨w10.heap.size, 2, none⟩ = some (.slice C2 n2 c2) ∧ w'.cell? ⟨w12.heap.size, 0, none⟩ = some (.int .i64 ta.start) ∧ w'.cell? ⟨w12.heap.size, 1, none⟩ = some (.slice T1 nt t1) ∧ w'.cell? ⟨w12.heap.size, 2, none⟩ = some (.slice T2 tn t2) ∧ w'.cell? ⟨w14.heap.size, 0, none⟩ = some (.int .i64 ma.start) ∧ w'.cell? ⟨w14.heap.size, 1, none⟩ = some (.slice M1 nm m1) ∧ w'.cell? ⟨w14.heap.size, 2, none⟩ = some (.slice M2 mn m2)) 1000 (by kernel_rfl) ?_
          (refine wpX_take (i := 0) (v := ?_) (by simp only [List.getElem?_toArray, List.getElem?_cons_succ, List.getElem?_cons_zero]; rfl) (by kernel_rfl) (by kernel_rfl) (by kernel_rfl) (by kernel_rfl) (by exact fun _ _ _ h => h) (Or.inl ⟨by rfl, ?_⟩) (by assumption) ?_; rotate_left; (intro w hSw; (try dsimp only at hSw); go_simp); (try with_reducible rfl); (try simp only [Act.put, List.setIfInBounds_toArray, List.set_cons_zero, List.set_cons_succ]))
          (refine wpX_take (i := 1) (v := ?_) (by simp only [List.getElem?_toArray, List.getElem?_cons_succ, List.getElem?_cons_zero]; rfl) (by kernel_rfl) (by kernel_rfl) (by kernel_rfl) (by kernel_rfl) (by exact fun _ _ _ h => h) (Or.inl ⟨by rfl, ?_⟩) (by assumption) ?_; rotate_left; (intro w hSw; (try dsimp only at hSw); go_simp); (try with_reducible rfl); (try simp only [Act.put, List.setIfInBounds_toArray, List.set_cons_zero, List.set_cons_succ]))
          (refine wpX_take (i := 3) (v := ?_) (by simp only [List.getElem?_toArray, List.getElem?_cons_succ, List.getElem?_cons_zero]; rfl) (by kernel_rfl) (by kernel_rfl) (by kernel_rfl) (by kernel_rfl) (by exact fun _ _ _ h => h) (Or.inl ⟨by rfl, ?_⟩) (by assumption) ?_; rotate_left; (intro w hSw; (try dsimp only at hSw); go_simp); (try with_reducible rfl); (try simp only [Act.put, List.setIfInBounds_toArray, List.set_cons_zero, List.set_cons_succ]))
          (refine wpX_take (i := 4) (v := ?_) (by simp only [List.getElem?_toArray, List.getElem?_cons_succ, List.getElem?_cons_zero]; rfl) (by kernel_rfl) (by kernel_rfl) (by kernel_rfl) (by kernel_rfl) (by exact fun _ _ _ h => h) (Or.inl ⟨by rfl, ?_⟩) (by assumption) ?_; rotate_left; (intro w hSw; (try dsimp only at hSw); go_simp); (try with_reducible rfl); (try simp only [Act.put, List.setIfInBounds_toArray, List.set_cons_zero, List.set_cons_succ]))
          refine wpX_one (i := 2) (by kernel_rfl) (by simp only [List.getElem?_toArray, List.getElem?_cons_succ, List.getElem?_cons_zero]; rfl) (fun K hK => ?_)
          go_simp
          refine (implAccepts_any ta _ E ne ce ws _ _ (fun _ => True) (hTVd.below hbD) (hWd.below hbD (fun b _ hl => hl))).mono ?_
          rintro e we ⟨rfl, hbe⟩
          rw [HLT.out]
          have h3e := h3'.below hbe
          have hbE := hbD.trans hbe
          have se : (fun w' : World => w'.cell? ⟨w10.heap.size, 0, none⟩ = some (.int .i64 ca.start) ∧ w'.cell? ⟨w10.heap.size, 1, none⟩ = some (.slice C1 nc c1) ∧ w'.cell? ⟨w10.heap.size, 2, none⟩ = some (.slice C2 n2 c2) ∧ w'.cell? ⟨w12.heap.size, 0, none⟩ = some (.int .i64 ta.start) ∧ w'.cell? ⟨w12.heap.size, 1, none⟩ = some (.slice T1 nt t1) ∧ w'.cell? ⟨w12.heap.size, 2, none⟩ = some (.slice T2 tn t2) ∧ w'.cell? ⟨w14.heap.size, 0, none⟩ = some (.int .i64 ma.start) ∧ w'.cell? ⟨w14.heap.size, 1, none⟩ = some (.slice M1 nm m1) ∧ w'.cell? ⟨w14.heap.size, 2, none⟩ = some (.slice M2 mn m2)) we := h3e.cells
          (refine hK.out _ _ (Or.inr se) ?_; clear hK; (try simp only [Act.put, List.setIfInBounds_toArray, List.set_cons_zero, List.set_cons_succ]))
          refine wpX_one (i := 5) (by kernel_rfl) (by simp only [List.getElem?_toArray, List.getElem?_cons_succ, List.getElem?_cons_zero]; rfl) (fun K hK => ?_)
          go_simp
          refine (specAccepts_any ca _ E ne ce ws _ _ (fun _ => True) (hCVd.below hbE) (hWd.below hbE (fun b _ hl => hl))).mono ?_
          rintro e wf ⟨rfl, hbf⟩
          have h3f := h3e.below hbf
          have hbF := hbE.trans (hbf.mono hbE.size)
          have sf : (fun w' : World => w'.cell? ⟨w10.heap.size, 0, none⟩ = some (.int .i64 ca.start) ∧ w'.cell? ⟨w10.heap.size, 1, none⟩ = some (.slice C1 nc c1) ∧ w'.cell? ⟨w10.heap.size, 2, none⟩ = some (.slice C2 n2 c2) ∧ w'.cell? ⟨w12.heap.size, 0, none⟩ = some (.int .i64 ta.start) ∧ w'.cell? ⟨w12.heap.size, 1, none⟩ = some (.slice T1 nt t1) ∧ w'.cell? ⟨w12.heap.size, 2, none⟩ = some (.slice T2 tn t2) ∧ w'.cell? ⟨w14.heap.size, 0, none⟩ = some (.int .i64 ma.start) ∧ w'.cell? ⟨w14.heap.size, 1, none⟩ = some (.slice M1 nm m1) ∧ w'.cell? ⟨w14.heap.size, 2, none⟩ = some (.slice M2 mn m2)) wf := h3f.cells
          (refine hK.out _ _ (Or.inr sf) ?_; clear hK; (try simp only [Act.put, List.setIfInBounds_toArray, List.set_cons_zero, List.set_cons_succ]))
          obtain ⟨ab, hab⟩ : ∃ ab, Hid (accWB ca ws = ab) := ⟨_, Lib.hid rfl⟩
          rw [hab.out]
          (refine wpX_take (i := 6) (v := ?_) (by simp only [List.getElem?_toArray, List.getElem?_cons_succ, List.getElem?_cons_zero]; rfl) (by kernel_rfl) (by kernel_rfl) (by kernel_rfl) (by kernel_rfl) (by exact fun _ _ _ h => h) (Or.inl ⟨by rfl, ?_⟩) (by assumption) ?_; rotate_left; (intro w hSw; (try dsimp only at hSw); go_simp); (try with_reducible rfl); (try simp only [Act.put, List.setIfInBounds_toArray, List.set_cons_zero, List.set_cons_succ]))
          (refine wpX_take (i := 7) (v := ?_) (by simp only [List.getElem?_toArray, List.getElem?_cons_succ, List.getElem?_cons_zero]; rfl) (by kernel_rfl) (by kernel_rfl) (by kernel_rfl) (by kernel_rfl) (by exact fun _ _ _ h => h) (Or.inl ⟨by rfl, ?_⟩) (by assumption) ?_; rotate_left; (intro w hSw; (try dsimp only at hSw); go_simp); (try with_reducible rfl); (try simp only [Act.put, List.setIfInBounds_toArray, List.set_cons_zero, List.set_cons_succ]))
          (refine wpX_take (i := 8) (v := ?_) (by simp only [List.getElem?_toArray, List.getElem?_cons_succ, List.getElem?_cons_zero]; rfl) (by kernel_rfl) (by kernel_rfl) (by kernel_rfl) (by kernel_rfl) (by exact fun _ _ _ h => h) (Or.inl ⟨by rfl, ?_⟩) (by assumption) ?_; rotate_left; (intro w hSw; (try dsimp only at hSw); go_simp); (try with_reducible rfl); (try simp only [Act.put, List.setIfInBounds_toArray, List.set_cons_zero, List.set_cons_succ]))
          (refine wpX_take (i := 9) (v := ?_) (by simp only [List.getElem?_toArray, List.getElem?_cons_succ, List.getElem?_cons_zero]; rfl) (by kernel_rfl) (by kernel_rfl) (by kernel_rfl) (by kernel_rfl) (by exact fun _ _ _ h => h) (Or.inl ⟨by rfl, ?_⟩) (by assumption) ?_; rotate_left; (intro w hSw; (try dsimp only at hSw); go_simp); (try with_reducible rfl); (try simp only [Act.put, List.setIfInBounds_toArray, List.set_cons_zero, List.set_cons_succ]))
          (refine wpX_take (i := 11) (v := ?_) (by simp only [List.getElem?_toArray, List.getElem?_cons_succ, List.getElem?_cons_zero]; rfl) (by kernel_rfl) (by kernel_rfl) (by kernel_rfl) (by kernel_rfl) (by exact fun _ _ _ h => h) (Or.inl ⟨by rfl, ?_⟩) (by assumption) ?_; rotate_left; (intro w hSw; (try dsimp only at hSw); go_simp); (try with_reducible rfl); (try simp only [Act.put, List.setIfInBounds_toArray, List.set_cons_zero, List.set_cons_succ]))
          (refine wpX_take (i := 12) (v := ?_) (by simp only [List.getElem?_toArray, List.getElem?_cons_succ, List.getElem?_cons_zero]; rfl) (by kernel_rfl) (by kernel_rfl) (by kernel_rfl) (by kernel_rfl) (by exact fun _ _ _ h => h) (Or.inl ⟨by rfl, ?_⟩) (by assumption) ?_; rotate_left; (intro w hSw; (try dsimp only at hSw); go_simp); (try with_reducible rfl); (try simp only [Act.put, List.setIfInBounds_toArray, List.set_cons_zero, List.set_cons_succ]))
          refine wpX_one (i := 10) (by kernel_rfl) (by simp only [List.getElem?_toArray, List.getElem?_cons_succ, List.getElem?_cons_zero]; rfl) (fun K hK => ?_)
          go_simp
          refine (implAccepts_any ma _ E ne ce ws _ _ (fun _ => True) (hMVd.below hbF) (hWd.below hbF (fun b _ hl => hl))).mono ?_
          rintro e wg ⟨rfl, hbg⟩
          rw [HLM.out, hab.out]
          have h3g := h3f.below hbg
          have hbG := hbF.trans (hbg.mono hbF.size)
          have sg : (fun w' : World => w'.cell? ⟨w10.heap.size, 0, none⟩ = some (.int .i64 ca.start) ∧ w'.cell? ⟨w10.heap.size, 1, none⟩ = some (.slice C1 nc c1) ∧ w'.cell? ⟨w10.heap.size, 2, none⟩ = some (.slice C2 n2 c2) ∧ w'.cell? ⟨w12.heap.size, 0, none⟩ = some (.int .i64 ta.start) ∧ w'.cell? ⟨w12.heap.size, 1, none⟩ = some (.slice T1 nt t1) ∧ w'.cell? ⟨w12.heap.size, 2, none⟩ = some (.slice T2 tn t2) ∧ w'.cell? ⟨w14.heap.size, 0, none⟩ = some (.int .i64 ma.start) ∧ w'.cell? ⟨w14.heap.size, 1, none⟩ = some (.slice M1 nm m1) ∧ w'.cell? ⟨w14.heap.size, 2, none⟩ = some (.slice M2 mn m2)) wg := h3g.cells
          (refine hK.out _ _ (Or.inr sg) ?_; clear hK; (try simp only [Act.put, List.setIfInBounds_toArray, List.set_cons_zero, List.set_cons_succ]))
          refine wpX_one (i := 13) (by kernel_rfl) (by simp only [List.getElem?_toArray, List.getElem?_cons_succ, List.getElem?_cons_zero]; rfl) (fun K hK => ?_)
          go_simp
          refine (specAccepts_any ca _ E ne ce ws _ _ (fun _ => True) (hCVd.below hbG) (hWd.below hbG (fun b _ hl => hl))).mono ?_
          rintro e wh ⟨rfl, hbh⟩
          rw [hab.out]
          have h3h := h3g.below hbh
          have hbH := hbG.trans (hbh.mono hbG.size)
          have sh : (fun w' : World => w'.cell? ⟨w10.heap.size, 0, none⟩ = some (.int .i64 ca.start) ∧ w'.cell? ⟨w10.heap.size, 1, none⟩ = some (.slice C1 nc c1) ∧ w'.cell? ⟨w10.heap.size, 2, none⟩ = some (.slice C2 n2 c2) ∧ w'.cell? ⟨w12.heap.size, 0, none⟩ = some (.int .i64 ta.start) ∧ w'.cell? ⟨w12.heap.size, 1, none⟩ = some (.slice T1 nt t1) ∧ w'.cell? ⟨w12.heap.size, 2, none⟩ = some (.slice T2 tn t2) ∧ w'.cell? ⟨w14.heap.size, 0, none⟩ = some (.int .i64 ma.start) ∧ w'.cell? ⟨w14.heap.size, 1, none⟩ = some (.slice M1 nm m1) ∧ w'.cell? ⟨w14.heap.size, 2, none⟩ = some (.slice M2 mn m2)) wh := h3h.cells
          (refine hK.out _ _ (Or.inr sh) ?_; clear hK; (try simp only [Act.put, List.setIfInBounds_toArray, List.set_cons_zero, List.set_cons_succ]))
          (refine wpX_take (i := 14) (v := ?_) (by simp only [List.getElem?_toArray, List.getElem?_cons_succ, List.getElem?_cons_zero]; rfl) (by kernel_rfl) (by kernel_rfl) (by kernel_rfl) (by kernel_rfl) (by exact fun _ _ _ h => h) (Or.inl ⟨by rfl, ?_⟩) (by assumption) ?_; rotate_left; (intro w hSw; (try dsimp only at hSw); go_simp); (try with_reducible rfl); (try simp only [Act.put, List.setIfInBounds_toArray, List.set_cons_zero, List.set_cons_succ]))
          (refine wpX_take (i := 15) (v := ?_) (by simp only [List.getElem?_toArray, List.getElem?_cons_succ, List.getElem?_cons_zero]; rfl) (by kernel_rfl) (by kernel_rfl) (by kernel_rfl) (by kernel_rfl) (by exact fun _ _ _ h => h) (Or.inl ⟨by rfl, ?_⟩) (by assumption) ?_; rotate_left; (intro w hSw; (try dsimp only at hSw); go_simp); (try with_reducible rfl); (try simp only [Act.put, List.setIfInBounds_toArray, List.set_cons_zero, List.set_cons_succ]))
          (refine wpX_take (i := 16) (v := ?_) (by simp only [List.getElem?_toArray, List.getElem?_cons_succ, List.getElem?_cons_zero]; rfl) (by kernel_rfl) (by kernel_rfl) (by kernel_rfl) (by kernel_rfl) (by exact fun _ _ _ h => h) (Or.inl ⟨by rfl, ?_⟩) (by assumption) ?_; rotate_left; (intro w hSw; (try dsimp only at hSw); go_simp); (try with_reducible rfl); (try simp only [Act.put, List.setIfInBounds_toArray, List.set_cons_zero, List.set_cons_succ]))
          (refine wpX_take (i := 17) (v := ?_) (by simp only [List.getElem?_toArray, List.getElem?_cons_succ, List.getElem?_cons_zero]; rfl) (by kernel_rfl) (by kernel_rfl) (by kernel_rfl) (by kernel_rfl) (by exact fun _ _ _ h => h) (Or.inl ⟨by rfl, ?_⟩) (by assumption) ?_; rotate_left; (intro w hSw; (try dsimp only at hSw); go_simp); (try with_reducible rfl); (try simp only [Act.put, List.setIfInBounds_toArray, List.set_cons_zero, List.set_cons_succ]))
          (refine wpX_take (i := 18) (v := ?_) (by simp only [List.getElem?_toArray, List.getElem?_cons_succ, List.getElem?_cons_zero]; rfl) (by kernel_rfl) (by kernel_rfl) (by kernel_rfl) (by kernel_rfl) (by exact fun _ _ _ h => h) (Or.inl ⟨by rfl, ?_⟩) (by assumption) ?_; rotate_left; (intro w hSw; (try dsimp only at hSw); go_simp); (try with_reducible rfl); (try simp only [Act.put, List.setIfInBounds_toArray, List.set_cons_zero, List.set_cons_succ]))
          (refine wpX_take (i := 19) (v := ?_) (by simp only [List.getElem?_toArray, List.getElem?_cons_succ, List.getElem?_cons_zero]; rfl) (by kernel_rfl) (by kernel_rfl) (by kernel_rfl) (by kernel_rfl) (by exact fun _ _ _ h => h) (Or.inl ⟨by rfl, ?_⟩) (by assumption) ?_; rotate_left; (intro w hSw; (try dsimp only at hSw); go_simp); (try with_reducible rfl); (try simp only [Act.put, List.setIfInBounds_toArray, List.set_cons_zero, List.set_cons_succ]))
          (refine wpX_take (i := 20) (v := ?_) (by simp only [List.getElem?_toArray, List.getElem?_cons_succ, List.getElem?_cons_zero]; rfl) (by kernel_rfl) (by kernel_rfl) (by kernel_rfl) (by kernel_rfl) (by exact fun _ _ _ h => h) (Or.inl ⟨by rfl, ?_⟩) (by assumption) ?_; rotate_left; (intro w hSw; (try dsimp only at hSw); go_simp); (try with_reducible rfl); (try simp only [Act.put, List.setIfInBounds_toArray, List.set_cons_zero, List.set_cons_succ]))
          (refine wpX_take (i := 21) (v := ?_) (by simp only [List.getElem?_toArray, List.getElem?_cons_succ, List.getElem?_cons_zero]; rfl) (by kernel_rfl) (by kernel_rfl) (by kernel_rfl) (by kernel_rfl) (by exact fun _ _ _ h => h) (Or.inl ⟨by rfl, ?_⟩) (by assumption) ?_; rotate_left; (intro w hSw; (try dsimp only at hSw); go_simp); (try with_reducible rfl); (try simp only [Act.put, List.setIfInBounds_toArray, List.set_cons_zero, List.set_cons_succ]))
          (refine wpX_take (i := 22) (v := ?_) (by simp only [List.getElem?_toArray, List.getElem?_cons_succ, List.getElem?_cons_zero]; rfl) (by kernel_rfl) (by kernel_rfl) (by kernel_rfl) (by kernel_rfl) (by exact fun _ _ _ h => h) (Or.inl ⟨by rfl, ?_⟩) (by assumption) ?_; rotate_left; (intro w hSw; (try dsimp only at hSw); go_simp); (try with_reducible rfl); (try simp only [Act.put, List.setIfInBounds_toArray, List.set_cons_zero, List.set_cons_succ]))
          (refine wpX_take (i := 23) (v := ?_) (by simp only [List.getElem?_toArray, List.getElem?_cons_succ, List.getElem?_cons_zero]; rfl) (by kernel_rfl) (by kernel_rfl) (by kernel_rfl) (by kernel_rfl) (by exact fun _ _ _ h => h) (Or.inl ⟨by rfl, ?_⟩) (by assumption) ?_; rotate_left; (intro w hSw; (try dsimp only at hSw); go_simp); (try with_reducible rfl); (try simp only [Act.put, List.setIfInBounds_toArray, List.set_cons_zero, List.set_cons_succ]))
          (refine wpX_take (i := 24) (v := ?_) (by simp only [List.getElem?_toArray, List.getElem?_cons_succ, List.getElem?_cons_zero]; rfl) (by kernel_rfl) (by kernel_rfl) (by kernel_rfl) (by kernel_rfl) (by exact fun _ _ _ h => h) (Or.inl ⟨by rfl, ?_⟩) (by assumption) ?_; rotate_left; (intro w hSw; (try dsimp only at hSw); go_simp); (try with_reducible rfl); (try simp only [Act.put, List.setIfInBounds_toArray, List.set_cons_zero, List.set_cons_succ]))
          (refine wpX_take (i := 25) (v := ?_) (by simp only [List.getElem?_toArray, List.getElem?_cons_succ, List.getElem?_cons_zero]; rfl) (by kernel_rfl) (by kernel_rfl) (by kernel_rfl) (by kernel_rfl) (by exact fun _ _ _ h => h) (Or.inl ⟨by rfl, ?_⟩) (by assumption) ?_; rotate_left; (intro w hSw; (try dsimp only at hSw); go_simp); (try with_reducible rfl); (try simp only [Act.put, List.setIfInBounds_toArray, List.set_cons_zero, List.set_cons_succ]))
          (refine wpX_take (i := 26) (v := ?_) (by simp only [List.getElem?_toArray, List.getElem?_cons_succ, List.getElem?_cons_zero]; rfl) (by kernel_rfl) (by kernel_rfl) (by kernel_rfl) (by kernel_rfl) (by exact fun _ _ _ h => h) (Or.inl ⟨by rfl, ?_⟩) (by assumption) ?_; rotate_left; (intro w hSw; (try dsimp only at hSw); go_simp); (try with_reducible rfl); (try simp only [Act.put, List.setIfInBounds_toArray, List.set_cons_zero, List.set_cons_succ]))
          refine wpX_one (i := 27) (by kernel_rfl) (by simp only [List.getElem?_toArray, List.getElem?_cons_succ, List.getElem?_cons_zero]; rfl) (fun K hK => ?_)
          go_simp
          refine (isMin_any ma _ _ _ (hMVd.below hbH)).mono ?_
          rintro e wi ⟨rfl, hbi⟩
          rw [HMM.out]
          have h3i := h3h.below hbi
          have hbI := hbH.trans (hbi.mono hbH.size)
          have si : (fun w' : World => w'.cell? ⟨w10.heap.size, 0, none⟩ = some (.int .i64 ca.start) ∧ w'.cell? ⟨w10.heap.size, 1, none⟩ = some (.slice C1 nc c1) ∧ w'.cell? ⟨w10.heap.size, 2, none⟩ = some (.slice C2 n2 c2) ∧ w'.cell? ⟨w12.heap.size, 0, none⟩ = some (.int .i64 ta.start) ∧ w'.cell? ⟨w12.heap.size, 1, none⟩ = some (.slice T1 nt t1) ∧ w'.cell? ⟨w12.heap.size, 2, none⟩ = some (.slice T2 tn t2) ∧ w'.cell? ⟨w14.heap.size, 0, none⟩ = some (.int .i64 ma.start) ∧ w'.cell? ⟨w14.heap.size, 1, none⟩ = some (.slice M1 nm m1) ∧ w'.cell? ⟨w14.heap.size, 2, none⟩ = some (.slice M2 mn m2)) wi := h3i.cells
          (refine hK.out _ _ (Or.inr si) ?_; clear hK; (try simp only [Act.put, List.setIfInBounds_toArray, List.set_cons_zero, List.set_cons_succ]))
          (refine wpX_take (i := 28) (v := ?_) (by simp only [List.getElem?_toArray, List.getElem?_cons_succ, List.getElem?_cons_zero]; rfl) (by kernel_rfl) (by kernel_rfl) (by kernel_rfl) (by kernel_rfl) (by exact fun _ _ _ h => h) (Or.inl ⟨by rfl, ?_⟩) (by assumption) ?_; rotate_left; (intro w hSw; (try dsimp only at hSw); go_simp); (try with_reducible rfl); (try simp only [Act.put, List.setIfInBounds_toArray, List.set_cons_zero, List.set_cons_succ]))
          (refine wpX_take (i := 29) (v := ?_) (by simp only [List.getElem?_toArray, List.getElem?_cons_succ, List.getElem?_cons_zero]; rfl) (by kernel_rfl) (by kernel_rfl) (by kernel_rfl) (by kernel_rfl) (by exact fun _ _ _ h => h) (Or.inl ⟨by rfl, ?_⟩) (by assumption) ?_; rotate_left; (intro w hSw; (try dsimp only at hSw); go_simp); (try with_reducible rfl); (try simp only [Act.put, List.setIfInBounds_toArray, List.set_cons_zero, List.set_cons_succ]))
          (refine wpX_take (i := 30) (v := ?_) (by simp only [List.getElem?_toArray, List.getElem?_cons_succ, List.getElem?_cons_zero]; rfl) (by kernel_rfl) (by kernel_rfl) (by kernel_rfl) (by kernel_rfl) (by exact fun _ _ _ h => h) (Or.inl ⟨by rfl, ?_⟩) (by assumption) ?_; rotate_left; (intro w hSw; (try dsimp only at hSw); go_simp); (try with_reducible rfl); (try simp only [Act.put, List.setIfInBounds_toArray, List.set_cons_zero, List.set_cons_succ]))
          (refine wpX_take (i := 31) (v := ?_) (by simp only [List.getElem?_toArray, List.getElem?_cons_succ, List.getElem?_cons_zero]; rfl) (by kernel_rfl) (by kernel_rfl) (by kernel_rfl) (by kernel_rfl) (by exact fun _ _ _ h => h) (Or.inl ⟨by rfl, ?_⟩) (by assumption) ?_; rotate_left; (intro w hSw; (try dsimp only at hSw); go_simp); (try with_reducible rfl); (try simp only [Act.put, List.setIfInBounds_toArray, List.set_cons_zero, List.set_cons_succ]))
          refine wpX_one (i := 32) (by kernel_rfl) (by simp only [List.getElem?_toArray, List.getElem?_cons_succ, List.getElem?_cons_zero]; rfl) (fun K hK => ?_)
          go_simp
          obtain ⟨Q, hQ, hQ0⟩ := HBIS.out
          refine (equiv_any ca ma Q _ _ _ _ _ (hCVd.below hbI) (hMVd.below hbI) HV.out HVM.out hQ hQ0).mono ?_
          rintro e wj ⟨rfl, hbj⟩
          have h3j := h3i.below hbj
          have hbJ := hbI.trans (hbj.mono hbI.size)
          have sj : (fun w' : World => w'.cell? ⟨w10.heap.size, 0, none⟩ = some (.int .i64 ca.start) ∧ w'.cell? ⟨w10.heap.size, 1, none⟩ = some (.slice C1 nc c1) ∧ w'.cell? ⟨w10.heap.size, 2, none⟩ = some (.slice C2 n2 c2) ∧ w'.cell? ⟨w12.heap.size, 0, none⟩ = some (.int .i64 ta.start) ∧ w'.cell? ⟨w12.heap.size, 1, none⟩ = some (.slice T1 nt t1) ∧ w'.cell? ⟨w12.heap.size, 2, none⟩ = some (.slice T2 tn t2) ∧ w'.cell? ⟨w14.heap.size, 0, none⟩ = some (.int .i64 ma.start) ∧ w'.cell? ⟨w14.heap.size, 1, none⟩ = some (.slice M1 nm m1) ∧ w'.cell? ⟨w14.heap.size, 2, none⟩ = some (.slice M2 mn m2)) wj := h3j.cells
          (refine hK.out _ _ (Or.inr sj) ?_; clear hK; (try simp only [Act.put, List.setIfInBounds_toArray, List.set_cons_zero, List.set_cons_succ]))
          (refine wpX_take (i := 33) (v := ?_) (by simp only [List.getElem?_toArray, List.getElem?_cons_succ, List.getElem?_cons_zero]; rfl) (by kernel_rfl) (by kernel_rfl) (by kernel_rfl) (by kernel_rfl) (by exact fun _ _ _ h => h) (Or.inl ⟨by rfl, ?_⟩) (by assumption) ?_; rotate_left; (intro w hSw; (try dsimp only at hSw); go_simp); (try with_reducible rfl); (try simp only [Act.put, List.setIfInBounds_toArray, List.set_cons_zero, List.set_cons_succ]))
          (refine wpX_take (i := 34) (v := ?_) (by simp only [List.getElem?_toArray, List.getElem?_cons_succ, List.getElem?_cons_zero]; rfl) (by kernel_rfl) (by kernel_rfl) (by kernel_rfl) (by kernel_rfl) (by exact fun _ _ _ h => h) (Or.inl ⟨by rfl, ?_⟩) (by assumption) ?_; rotate_left; (intro w hSw; (try dsimp only at hSw); go_simp); (try with_reducible rfl); (try simp only [Act.put, List.setIfInBounds_toArray, List.set_cons_zero, List.set_cons_succ]))
          (refine wpX_take (i := 35) (v := ?_) (by simp only [List.getElem?_toArray, List.getElem?_cons_succ, List.getElem?_cons_zero]; rfl) (by kernel_rfl) (by kernel_rfl) (by kernel_rfl) (by kernel_rfl) (by exact fun _ _ _ h => h) (Or.inl ⟨by rfl, ?_⟩) (by assumption) ?_; rotate_left; (intro w hSw; (try dsimp only at hSw); go_simp); (try with_reducible rfl); (try simp only [Act.put, List.setIfInBounds_toArray, List.set_cons_zero, List.set_cons_succ]))
          (refine wpX_take (i := 38) (v := ?_) (by simp only [List.getElem?_toArray, List.getElem?_cons_succ, List.getElem?_cons_zero]; rfl) (by kernel_rfl) (by kernel_rfl) (by kernel_rfl) (by kernel_rfl) (by exact fun _ _ _ h => h) (Or.inl ⟨by rfl, ?_⟩) (by assumption) ?_; rotate_left; (intro w hSw; (try dsimp only at hSw); go_simp); (try with_reducible rfl); (try simp only [Act.put, List.setIfInBounds_toArray, List.set_cons_zero, List.set_cons_succ]))
          (refine wpX_take (i := 39) (v := ?_) (by simp only [List.getElem?_toArray, List.getElem?_cons_succ, List.getElem?_cons_zero]; rfl) (by kernel_rfl) (by kernel_rfl) (by kernel_rfl) (by kernel_rfl) (by exact fun _ _ _ h => h) (Or.inl ⟨by rfl, ?_⟩) (by assumption) ?_; rotate_left; (intro w hSw; (try dsimp only at hSw); go_simp); (try with_reducible rfl); (try simp only [Act.put, List.setIfInBounds_toArray, List.set_cons_zero, List.set_cons_succ]))
          (refine wpX_take (i := 40) (v := ?_) (by simp only [List.getElem?_toArray, List.getElem?_cons_succ, List.getElem?_cons_zero]; rfl) (by kernel_rfl) (by kernel_rfl) (by kernel_rfl) (by kernel_rfl) (by exact fun _ _ _ h => h) (Or.inl ⟨by rfl, ?_⟩) (by assumption) ?_; rotate_left; (intro w hSw; (try dsimp only at hSw); go_simp); (try with_reducible rfl); (try simp only [Act.put, List.setIfInBounds_toArray, List.set_cons_zero, List.set_cons_succ]))
          refine wpX_one (i := 36) (by kernel_rfl) (by simp only [List.getElem?_toArray, List.getElem?_cons_succ, List.getElem?_cons_zero]; rfl) (fun K hK => ?_)
          go_simp
          refine (useful_any ca _ _ _ (hCVd.below hbJ)).mono ?_
          rintro e wk ⟨UA, un, uc, rfl, hun, hbk⟩
          rw [HC.out] at hun
          have huni : (un : Int) ≤ (nc : Int) := by omega
          have h3k := h3j.below hbk
          have hbK := hbJ.trans (hbk.mono hbJ.size)
          have sk : (fun w' : World => w'.cell? ⟨w10.heap.size, 0, none⟩ = some (.int .i64 ca.start) ∧ w'.cell? ⟨w10.heap.size, 1, none⟩ = some (.slice C1 nc c1) ∧ w'.cell? ⟨w10.heap.size, 2, none⟩ = some (.slice C2 n2 c2) ∧ w'.cell? ⟨w12.heap.size, 0, none⟩ = some (.int .i64 ta.start) ∧ w'.cell? ⟨w12.heap.size, 1, none⟩ = some (.slice T1 nt t1) ∧ w'.cell? ⟨w12.heap.size, 2, none⟩ = some (.slice T2 tn t2) ∧ w'.cell? ⟨w14.heap.size, 0, none⟩ = some (.int .i64 ma.start) ∧ w'.cell? ⟨w14.heap.size, 1, none⟩ = some (.slice M1 nm m1) ∧ w'.cell? ⟨w14.heap.size, 2, none⟩ = some (.slice M2 mn m2)) wk := h3k.cells
          (refine hK.out _ _ (Or.inr sk) ?_; clear hK; (try simp only [Act.put, List.setIfInBounds_toArray, List.set_cons_zero, List.set_cons_succ]))
          (refine wpX_take (i := 37) (v := ?_) (by simp only [List.getElem?_toArray, List.getElem?_cons_succ, List.getElem?_cons_zero]; rfl) (by kernel_rfl) (by kernel_rfl) (by kernel_rfl) (by kernel_rfl) (by exact fun _ _ _ h => h) (Or.inl ⟨by rfl, ?_⟩) (by assumption) ?_; rotate_left; (intro w hSw; (try dsimp only at hSw); go_simp); (try with_reducible rfl); (try simp only [Act.put, List.setIfInBounds_toArray, List.set_cons_zero, List.set_cons_succ]))
          (refine wpX_take (i := 41) (v := ?_) (by simp only [List.getElem?_toArray, List.getElem?_cons_succ, List.getElem?_cons_zero]; rfl) (by kernel_rfl) (by kernel_rfl) (by kernel_rfl) (by kernel_rfl) (by exact fun _ _ _ h => h) (Or.inl ⟨by rfl, ?_⟩) (by assumption) ?_; rotate_left; (intro w hSw; (try dsimp only at hSw); go_simp); (try with_reducible rfl); (try simp only [Act.put, List.setIfInBounds_toArray, List.set_cons_zero, List.set_cons_succ]))
          (refine wpX_take (i := 42) (v := ?_) (by simp only [List.getElem?_toArray, List.getElem?_cons_succ, List.getElem?_cons_zero]; rfl) (by kernel_rfl) (by kernel_rfl) (by kernel_rfl) (by kernel_rfl) (by exact fun _ _ _ h => h) (Or.inl ⟨by rfl, ?_⟩) (by assumption) ?_; rotate_left; (intro w hSw; (try dsimp only at hSw); go_simp); (try with_reducible rfl); (try simp only [Act.put, List.setIfInBounds_toArray, List.set_cons_zero, List.set_cons_succ]))
          (refine wpX_take (i := 43) (v := ?_) (by simp only [List.getElem?_toArray, List.getElem?_cons_succ, List.getElem?_cons_zero]; rfl) (by kernel_rfl) (by kernel_rfl) (by kernel_rfl) (by kernel_rfl) (by exact fun _ _ _ h => h) (Or.inl ⟨by rfl, ?_⟩) (by assumption) ?_; rotate_left; (intro w hSw; (try dsimp only at hSw); go_simp); (try with_reducible rfl); (try simp only [Act.put, List.setIfInBounds_toArray, List.set_cons_zero, List.set_cons_succ]))
          refine wpX_done (by kernel_rfl) ?_ _
          go_wp2_with fail
          go_ret
          exact ⟨by first | rfl | simp, hbwd.out.trans (hbK.mono hbwd.out.size)⟩
end Go.Proofs.YtmnhpbbapkcdjaaGreat
