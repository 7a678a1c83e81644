/- Walks: l10Times. No condition. -/
import Derived.Test.YtmnhpbbapkcdjaaGreatA08

/- Walks: l10Times. -/
namespace Go.Proofs.YtmnhpbbapkcdjaaGreat
open Go.RowKit

theorem wrapi {x : Int} (h1 : -9223372036854775808 ≤ x) (h2 : x ≤ 9223372036854775807) : IntKind.i64.wrap x = x := by
  unfold IntKind.wrap
  simp [IntKind.bits, IntKind.signed]
  omega
theorem maxlow (lo : Nat) (h : lo ≤ 3) : (if 0 < IntKind.i64.wrap ((lo : Int) - 1) then IntKind.i64.wrap ((lo : Int) - 1) else 0) = ((lo - 1 : Nat) : Int) := by
  rw [wrapi (by omega) (by omega)]
  split <;> omega
def emptyT : Tr := .lf ⟨2, 0, 0, 0⟩
def timesT (x : Tr) : Nat → Nat → Tr
  | _, 0 => emptyT
  | lo, h + 1 => if 0 < lo then .bi x (timesT x (lo - 1) h) ⟨4, 0, 0, 0⟩ else .bi (.bi x (timesT x (lo - 1) h) ⟨4, 0, 0, 0⟩) emptyT ⟨5, 0, 0, 0⟩
theorem timesT_len (x : Tr) : ∀ (h lo : Nat), (timesT x lo h).flat.length ≤ h * (x.flat.length + 3) + 1
  | 0, lo => by simp [timesT, emptyT, Tr.flat]
  | h + 1, lo => by
    have ih := timesT_len x h (lo - 1)
    have e : (h + 1) * (x.flat.length + 3) = h * (x.flat.length + 3) + (x.flat.length + 3) := by rw [Nat.add_mul, Nat.one_mul]
    unfold timesT
    split <;> simp [Tr.flat, emptyT] <;> omega
theorem timesT_ok {x : Tr} (hx : x.Ok) : ∀ (h lo : Nat), (timesT x lo h).Ok
  | 0, lo => by show arI _ = 0; simp [arI]
  | h + 1, lo => by
    have ih := timesT_ok hx h (lo - 1)
    have h4 : arI ⟨4, 0, 0, 0⟩ = 2 := by simp [arI]
    have h5 : arI ⟨5, 0, 0, 0⟩ = 2 := by simp [arI]
    have h2 : arI ⟨2, 0, 0, 0⟩ = 0 := by simp [arI]
    unfold timesT
    split
    · exact ⟨hx, ih, h4⟩
    · exact ⟨⟨hx, ih, h4⟩, h2, h5⟩
theorem timesT_zero (x : Tr) (lo : Nat) : (timesT x lo 0).flat = [⟨2, 0, 0, 0⟩] := rfl
theorem timesT_pos {x : Tr} {lo h : Nat} (hl : 0 < lo) : (timesT x lo (h + 1)).flat = x.flat ++ (timesT x (lo - 1) h).flat ++ [⟨4, 0, 0, 0⟩] := by rw [timesT, if_pos hl]; rfl
theorem timesT_neg {x : Tr} {lo h : Nat} (hl : ¬ 0 < lo) : (timesT x lo (h + 1)).flat = (x.flat ++ (timesT x (lo - 1) h).flat ++ [⟨4, 0, 0, 0⟩]) ++ [⟨2, 0, 0, 0⟩] ++ [⟨5, 0, 0, 0⟩] := by rw [timesT, if_neg hl]; rfl

theorem ExO.form {w : World} {base : Nat} {v : Value} {L : List Tk} (h : ExO w base v L) : ∃ A c, v = .agg #[.slice A L.length c] ∧ w.ownsRow base 89 4 (.slice A L.length c) L.length (tks L) := by
  obtain ⟨u, rfl, ho⟩ := h
  obtain ⟨A, c, rfl⟩ := own_form ho
  exact ⟨A, c, rfl, ho⟩
/-- what is held behind a region that lays an expression into a variable -/
def Held (w : World) (n : Nat) (M : List Tk) (gx : Nat) (wx : World) : Prop :=
  ∃ A c, Blk wx gx 66 #[.slice A M.length c] ∧ wx.ownsRow n 89 4 (.slice A M.length c) M.length (tks M) ∧ Below n w wx ∧ n ≤ gx
theorem Held.late {W0 w3 w4 : World} {n c : Nat} {A : Option Addr} {M : List Tk} (h3 : Below n W0 w3) (hn : n ≤ w3.heap.size) (h4 : Below w3.heap.size w3 w4) (ho : w4.ownsRow w3.heap.size 89 4 (.slice A M.length c) M.length (tks M)) :
    Held W0 n M w4.heap.size (w4.alloc (.cells #[.slice A M.length c] 66)) :=
  ⟨A, c, Blk.new _ _ _, own_mono (own_below ho (below_alloc _ _)) hn, (h3.trans (h4.mono hn)).trans ((below_alloc _ _).mono (Nat.le_trans hn h4.size)), Nat.le_trans hn h4.size⟩
theorem Held.early {W0 w3 w4 : World} {n gx c : Nat} {A : Option Addr} {M : List Tk} {u : Value} (h3 : Below n W0 w3) (hn : n ≤ w3.heap.size) (hB : Blk w3 gx 66 #[u]) (hx : n ≤ gx) (h4 : Below w3.heap.size w3 w4) (ho : w4.ownsRow w3.heap.size 89 4 (.slice A M.length c) M.length (tks M)) :
    Held W0 n M gx (w4.setCell ⟨gx, 0, none⟩ (.slice A M.length c)) := by
  have hB4 := hB.below h4 hB.lt
  exact ⟨A, c, by simpa using hB4.set_ 0 (.slice A M.length c), own_mono (own_set ho hB4 (by decide) 0 _) hn, below_set (h3.trans (h4.mono hn)) hx 0 _, hx⟩

set_option maxRecDepth 100000 in
set_option maxHeartbeats 1000000 in
theorem l10Times_any (x : Tr) (A : Option Addr) (c : Nat) (p : Nat → Prop) (hl : x.flat.length ≤ 900000000000) : ∀ (h lo : Nat) (w : World), Tks w p A x.flat → lo ≤ 3 → h ≤ 3 →
    Calls Tryz.prog 110 #[.agg #[.slice A x.flat.length c], .int .i64 lo, .int .i64 h] w fun e w' => ∃ v, e = .returned v ∧ ExO w' w.heap.size v (timesT x lo h).flat ∧ Below w.heap.size w w'
  | 0, lo, w, hT, hlo, hh => by
    have hR := (blk2 w (.cells #[.slice A x.flat.length c] 66) 66 #[.slice none 0 0])
    have q0 := hR.cell 0
    simp at q0
    have HZ := Lib.hid (timesT_zero x lo)
    go_enter Tryz.func110, Tryz.ntmps110
    go_wp2_with fail
    refine (l8Leaf_any 2 _).mono ?_
    rintro e w3 ⟨v3, rfl, hO, hb3⟩
    have hR3 := hR.below hb3 hR.lt
    have q3 := hR3.cell 0
    have z3 := hR3.frozen 0
    simp at q3
    obtain ⟨u, rfl, ho⟩ := id hO
    obtain ⟨Au, cu, rfl⟩ := own_form ho
    have hlt := hR3.lt
    go_wp2
    refine bodyPost_ret (v := .agg #[.slice Au 1 cu]) (by simp [results, Tryz.results110, go_sem, q3]) rfl ?_
    refine ⟨_, rfl, ?_, below_set ((below_alloc2 w _ _).trans (hb3.mono (by simp; omega))) (by omega) _ _⟩
    rw [HZ.out]
    exact (hO.kept (grown_set _ _ _ _) (fun b e => by injection e with e; simp; omega)).mono (by simp; omega)
  | h + 1, lo, w, hT, hlo, hh => by
    have hR := (blk2 w (.cells #[.slice A x.flat.length c] 66) 66 #[.slice none 0 0])
    have hE := (Blk.new w 66 #[.slice A x.flat.length c]).alloc (.cells #[.slice none 0 0] 66)
    have hT0 := (hT.al (.cells #[.slice A x.flat.length c] 66)).al (.cells #[.slice none 0 0] 66)
    have HL : Hid (x.flat.length + (timesT x (lo - 1) h).flat.length + 1 + 1 + 1 ≤ 4000000000000) := Lib.hid (by
     have hlen : (timesT x (lo - 1) h).flat.length ≤ 2 * (x.flat.length + 3) + 1 := Nat.le_trans (timesT_len x h (lo - 1)) (Nat.succ_le_succ (Nat.mul_le_mul_right _ (by omega)))
     omega)
    have hhi : (h : Int) + 1 ≤ 3 := by omega
    obtain ⟨W0, hW0⟩ : ∃ W0, W0 = (w.alloc (.cells #[.slice A x.flat.length c] 66)).alloc (.cells #[.slice none 0 0] 66) := ⟨_, rfl⟩
    have hb0 : Below w.heap.size w W0 := by rw [hW0]; exact below_alloc2 w _ _
    have hs0 : W0.heap.size = w.heap.size + 1 + 1 := by rw [hW0]; simp
    obtain ⟨M, HM⟩ : ∃ M, Hid (x.flat ++ (timesT x (lo - 1) h).flat ++ [(⟨4, 0, 0, 0⟩ : Tk)] = M) := ⟨_, Lib.hid rfl⟩
    go_enter Tryz.func110, Tryz.ntmps110
    go_upto_region 3 with fail
    rw [← hW0] at hR hE hT0 ⊢
    clear hW0
    have q0 := hR.cell 0; have f0 := hE.cell 0
    simp at q0 f0
    go_cut [7] (fun v7 wx => ∃ gx, v7 = .pointer (some ⟨gx, 0, none⟩) ∧ Held W0 (w.heap.size + 1 + 1) M gx wx)
    case first =>
      have hS0 : (fun w' : World => w'.cell? ⟨w.heap.size, 0, none⟩ = some (.slice A x.flat.length c)) W0.drew := f0
      have hbD : Below W0.heap.size W0 W0.drew := (Below.refl _ _).drew
      refine wp_region_X (fun w' : World => w'.cell? ⟨w.heap.size, 0, none⟩ = some (.slice A x.flat.length c)) 11 (by kernel_rfl) ?_
      (refine wpX_take (i := 0) (v := ?_) (by simp only [List.getElem?_toArray, List.getElem?_cons_succ, List.getElem?_cons_zero]; rfl) (by kernel_rfl) (by kernel_rfl) (by kernel_rfl) (by kernel_rfl) (by exact fun _ _ _ h => h) (Or.inl ⟨by rfl, ?_⟩) (by assumption) ?_; rotate_left; (intro w hSw; (try dsimp only at hSw); go_simp); (try with_reducible rfl); (try simp only [Act.put, List.setIfInBounds_toArray, List.set_cons_zero, List.set_cons_succ]))
      (refine wpX_take (i := 1) (v := ?_) (by simp only [List.getElem?_toArray, List.getElem?_cons_succ, List.getElem?_cons_zero]; rfl) (by kernel_rfl) (by kernel_rfl) (by kernel_rfl) (by kernel_rfl) (by exact fun _ _ _ h => h) (Or.inl ⟨by rfl, ?_⟩) (by assumption) ?_; rotate_left; (intro w hSw; (try dsimp only at hSw); go_simp); (try with_reducible rfl); (try simp only [Act.put, List.setIfInBounds_toArray, List.set_cons_zero, List.set_cons_succ]))
      (refine wpX_take (i := 2) (v := ?_) (by simp only [List.getElem?_toArray, List.getElem?_cons_succ, List.getElem?_cons_zero]; rfl) (by kernel_rfl) (by kernel_rfl) (by kernel_rfl) (by kernel_rfl) (by exact fun _ _ _ h => h) (Or.inl ⟨by rfl, ?_⟩) (by assumption) ?_; rotate_left; (intro w hSw; (try dsimp only at hSw); go_simp); (try with_reducible rfl); (try simp only [Act.put, List.setIfInBounds_toArray, List.set_cons_zero, List.set_cons_succ]))
      (refine wpX_take (i := 3) (v := ?_) (by simp only [List.getElem?_toArray, List.getElem?_cons_succ, List.getElem?_cons_zero]; rfl) (by kernel_rfl) (by kernel_rfl) (by kernel_rfl) (by kernel_rfl) (by exact fun _ _ _ h => h) (Or.inl ⟨by rfl, ?_⟩) (by assumption) ?_; rotate_left; (intro w hSw; (try dsimp only at hSw); go_simp); (try with_reducible rfl); (try simp only [Act.put, List.setIfInBounds_toArray, List.set_cons_zero, List.set_cons_succ]))
      (refine wpX_take (i := 4) (v := ?_) (by simp only [List.getElem?_toArray, List.getElem?_cons_succ, List.getElem?_cons_zero]; rfl) (by kernel_rfl) (by kernel_rfl) (by kernel_rfl) (by kernel_rfl) (by exact fun _ _ _ h => h) (Or.inl ⟨by rfl, ?_⟩) (by assumption) ?_; rotate_left; (intro w hSw; (try dsimp only at hSw); go_simp); (try with_reducible rfl); (try simp only [Act.put, List.setIfInBounds_toArray, List.set_cons_zero, List.set_cons_succ]))
      (refine wpX_take (i := 5) (v := ?_) (by simp only [List.getElem?_toArray, List.getElem?_cons_succ, List.getElem?_cons_zero]; rfl) (by kernel_rfl) (by kernel_rfl) (by kernel_rfl) (by kernel_rfl) (by exact fun _ _ _ h => h) (Or.inl ⟨by rfl, ?_⟩) (by assumption) ?_; rotate_left; (intro w hSw; (try dsimp only at hSw); go_simp); (try with_reducible rfl); (try simp only [Act.put, List.setIfInBounds_toArray, List.set_cons_zero, List.set_cons_succ]))
      (refine wpX_take (i := 6) (v := ?_) (by simp only [List.getElem?_toArray, List.getElem?_cons_succ, List.getElem?_cons_zero]; rfl) (by kernel_rfl) (by kernel_rfl) (by kernel_rfl) (by kernel_rfl) (by exact fun _ _ _ h => h) (Or.inl ⟨by rfl, ?_⟩) (by assumption) ?_; rotate_left; (intro w hSw; (try dsimp only at hSw); go_simp); (try with_reducible rfl); (try simp only [Act.put, List.setIfInBounds_toArray, List.set_cons_zero, List.set_cons_succ]))
      (refine wpX_take (i := 8) (v := ?_) (by simp only [List.getElem?_toArray, List.getElem?_cons_succ, List.getElem?_cons_zero]; rfl) (by kernel_rfl) (by kernel_rfl) (by kernel_rfl) (by kernel_rfl) (by exact fun _ _ _ h => h) (Or.inl ⟨by rfl, ?_⟩) (by assumption) ?_; rotate_left; (intro w hSw; (try dsimp only at hSw); go_simp); (try with_reducible rfl); (try simp only [Act.put, List.setIfInBounds_toArray, List.set_cons_zero, List.set_cons_succ]))
      have e1 := Lib.hid (maxlow lo hlo)
      have e2 : Hid (IntKind.i64.wrap (h : Int) = (h : Int)) := Lib.hid (wrapi (by omega) (by omega))
      have hnE := hE.lt
      refine wpX_two (i := 7) (j := 10) (by kernel_rfl) (by simp only [List.getElem?_toArray, List.getElem?_cons_succ, List.getElem?_cons_zero]; rfl) (by simp only [List.getElem?_toArray, List.getElem?_cons_succ, List.getElem?_cons_zero]; rfl) (fun K hK => ?_) (fun K hK => ?_)
      · go_simp
        rw [e1.out, e2.out]
        refine (l10Times_any x A c p hl h (lo - 1) _ (by exact hT0) (by omega) (by omega)).mono ?_
        rintro e w3 ⟨v3, rfl, hO3, hb3⟩
        have hb03 := hbD.trans hb3
        have hT3 := hT0.below hb03
        have hE3 := hE.below hb03 hE.lt
        have hs3 : w.heap.size + 1 + 1 ≤ w3.heap.size := by have := hb03.size; omega
        have s3 : (fun w' : World => w'.cell? ⟨w.heap.size, 0, none⟩ = some (.slice A x.flat.length c)) w3 := hE3.cell 0
        (refine hK.out _ _ (Or.inr s3) ?_; clear hK; (try simp only [Act.put, List.setIfInBounds_toArray, List.set_cons_zero, List.set_cons_succ]))
        refine wpX_two (i := 9) (j := 10) (by kernel_rfl) (by simp only [List.getElem?_toArray, List.getElem?_cons_succ, List.getElem?_cons_zero]; rfl) (by simp only [List.getElem?_toArray, List.getElem?_cons_succ, List.getElem?_cons_zero]; rfl) (fun K hK => ?_) (fun K hK => ?_)
        · go_simp
          refine (l8Join_any x.flat (timesT x (lo - 1) h).flat _ _ 4 0 0 0 p _ _ ⟨A, c, rfl, hT3⟩ hO3.ex (by have := HL.out; omega)).mono ?_
          rintro e w4 ⟨v4, rfl, hO4, hb4⟩
          rw [HM.out] at hO4
          obtain ⟨Au, cu, rfl, ho4⟩ := hO4.form
          have hE4 := hE3.below hb4 hE3.lt
          have hM := Held.late (hb03.mono (by omega)) hs3 hb4 ho4
          have s4 : (fun w' : World => w'.cell? ⟨w.heap.size, 0, none⟩ = some (.slice A x.flat.length c)) w4 := hE4.cell 0
          (refine hK.out _ _ (Or.inr s4) ?_; clear hK; (try simp only [Act.put, List.setIfInBounds_toArray, List.set_cons_zero, List.set_cons_succ]))
          refine wpX_one (i := 10) (by kernel_rfl) (by simp only [List.getElem?_toArray, List.getElem?_cons_succ, List.getElem?_cons_zero]; rfl) (fun K hK => ?_)
          go_simp
          have s5 : (fun w' : World => w'.cell? ⟨w.heap.size, 0, none⟩ = some (.slice A x.flat.length c)) (w4.alloc (.cells #[.slice none 0 0] 66)) := (hE4.alloc (.cells #[.slice none 0 0] 66)).cell 0
          (refine hK.out _ _ (Or.inr s5) ?_; clear hK; (try simp only [Act.put, List.setIfInBounds_toArray, List.set_cons_zero, List.set_cons_succ]))
          refine wpX_one (i := 11) (by kernel_rfl) (by simp only [List.getElem?_toArray, List.getElem?_cons_succ, List.getElem?_cons_zero]; rfl) (fun K hK => ?_)
          go_simp
          (refine hK.out _ _ (Or.inl rfl) ?_; clear hK; (try simp only [Act.put, List.setIfInBounds_toArray, List.set_cons_zero, List.set_cons_succ]))
          refine wpX_done (by kernel_rfl) ?_ _
          go_wp2_with fail
          go_meet
          exact ⟨_, rfl, hM⟩
        · go_simp
          have s4 : (fun w' : World => w'.cell? ⟨w.heap.size, 0, none⟩ = some (.slice A x.flat.length c)) (w3.alloc (.cells #[.slice none 0 0] 66)) := (hE3.alloc (.cells #[.slice none 0 0] 66)).cell 0
          (refine hK.out _ _ (Or.inr s4) ?_; clear hK; (try simp only [Act.put, List.setIfInBounds_toArray, List.set_cons_zero, List.set_cons_succ]))
          refine wpX_one (i := 9) (by kernel_rfl) (by simp only [List.getElem?_toArray, List.getElem?_cons_succ, List.getElem?_cons_zero]; rfl) (fun K hK => ?_)
          go_simp
          refine (l8Join_any x.flat (timesT x (lo - 1) h).flat _ _ 4 0 0 0 p _ _ ⟨A, c, rfl, (hT3.al (.cells #[.slice none 0 0] 66))⟩ (hO3.below (below_alloc w3 (.cells #[.slice none 0 0] 66))).ex (by have := HL.out; omega)).mono ?_
          rintro e w4 ⟨v4, rfl, hO4, hb4⟩
          rw [HM.out] at hO4
          obtain ⟨Au, cu, rfl, ho4⟩ := hO4.form
          have hB4 := (Blk.new w3 66 #[.slice none 0 0]).below hb4 (by simp)
          have hM := Held.early ((hb03.mono (by omega)).trans ((below_alloc w3 (.cells #[.slice none 0 0] 66)).mono hs3)) (by simp; omega) (Blk.new w3 66 #[.slice none 0 0]) hs3 hb4 ho4
          have s5 : (fun w' : World => w'.cell? ⟨w.heap.size, 0, none⟩ = some (.slice A x.flat.length c)) w4 := ((hE3.alloc (.cells #[.slice none 0 0] 66)).below hb4 (hE3.alloc (.cells #[.slice none 0 0] 66)).lt).cell 0
          have q4 := hB4.cell 0
          have z4 := hB4.frozen 0
          have l4 := hB4.lt
          simp at q4
          (refine hK.out _ _ (Or.inr s5) ?_; clear hK; (try simp only [Act.put, List.setIfInBounds_toArray, List.set_cons_zero, List.set_cons_succ]))
          refine wpX_one (i := 11) (by kernel_rfl) (by simp only [List.getElem?_toArray, List.getElem?_cons_succ, List.getElem?_cons_zero]; rfl) (fun K hK => ?_)
          go_simp
          (refine hK.out _ _ (Or.inl rfl) ?_; clear hK; (try simp only [Act.put, List.setIfInBounds_toArray, List.set_cons_zero, List.set_cons_succ]))
          refine wpX_done (by kernel_rfl) ?_ _
          go_wp2_with fail
          go_meet
          exact ⟨_, rfl, hM⟩
      · go_simp
        have hED := (show Blk W0.drew w.heap.size 66 #[.slice A x.flat.length c] from hE).alloc (.cells #[.slice none 0 0] 66)
        have s2 : (fun w' : World => w'.cell? ⟨w.heap.size, 0, none⟩ = some (.slice A x.flat.length c)) (W0.drew.alloc (.cells #[.slice none 0 0] 66)) := hED.cell 0
        (refine hK.out _ _ (Or.inr s2) ?_; clear hK; (try simp only [Act.put, List.setIfInBounds_toArray, List.set_cons_zero, List.set_cons_succ]))
        refine wpX_one (i := 7) (by kernel_rfl) (by simp only [List.getElem?_toArray, List.getElem?_cons_succ, List.getElem?_cons_zero]; rfl) (fun K hK => ?_)
        go_simp
        rw [e1.out, e2.out]
        refine (l10Times_any x A c p hl h (lo - 1) _ ((show Tks W0.drew p A x.flat from hT0).al (.cells #[.slice none 0 0] 66)) (by omega) (by omega)).mono ?_
        rintro e w3 ⟨v3, rfl, hO3, hb3⟩
        have hb02 : Below W0.heap.size W0 (W0.drew.alloc (.cells #[.slice none 0 0] 66)) := hbD.trans (show Below W0.heap.size W0.drew (W0.drew.alloc (.cells #[.slice none 0 0] 66)) from below_alloc W0.drew _)
        have hb03 := hb02.trans (hb3.mono (by show W0.heap.size ≤ (W0.drew.alloc (.cells #[.slice none 0 0] 66)).heap.size; exact hb02.size))
        have hT3 := hT0.below hb03
        have hE3 := hED.below hb3 hED.lt
        have hs3 : w.heap.size + 1 + 1 ≤ w3.heap.size := by have := hb03.size; omega
        have s3 : (fun w' : World => w'.cell? ⟨w.heap.size, 0, none⟩ = some (.slice A x.flat.length c)) w3 := hE3.cell 0
        have hB3 : Blk w3 (w.heap.size + 1 + 1) 66 #[.slice none 0 0] := by rw [← hs0]; exact (Blk.new W0.drew 66 #[.slice none 0 0]).below hb3 (by simp)
        (refine hK.out _ _ (Or.inr s3) ?_; clear hK; (try simp only [Act.put, List.setIfInBounds_toArray, List.set_cons_zero, List.set_cons_succ]))
        refine wpX_one (i := 9) (by kernel_rfl) (by simp only [List.getElem?_toArray, List.getElem?_cons_succ, List.getElem?_cons_zero]; rfl) (fun K hK => ?_)
        go_simp
        refine (l8Join_any x.flat (timesT x (lo - 1) h).flat _ _ 4 0 0 0 p _ _ ⟨A, c, rfl, hT3⟩ hO3.ex (by have := HL.out; omega)).mono ?_
        rintro e w4 ⟨v4, rfl, hO4, hb4⟩
        rw [HM.out] at hO4
        obtain ⟨Au, cu, rfl, ho4⟩ := hO4.form
        have hB4 := hB3.below hb4 hB3.lt
        have hM := Held.early (n := w.heap.size + 1 + 1) (hb03.mono (by omega)) hs3 hB3 (Nat.le_refl _) hb4 ho4
        have s5 : (fun w' : World => w'.cell? ⟨w.heap.size, 0, none⟩ = some (.slice A x.flat.length c)) w4 := (hE3.below hb4 hE3.lt).cell 0
        have q4 := hB4.cell 0
        have z4 := hB4.frozen 0
        have l4 := hB4.lt
        simp at q4
        (refine hK.out _ _ (Or.inr s5) ?_; clear hK; (try simp only [Act.put, List.setIfInBounds_toArray, List.set_cons_zero, List.set_cons_succ]))
        refine wpX_one (i := 11) (by kernel_rfl) (by simp only [List.getElem?_toArray, List.getElem?_cons_succ, List.getElem?_cons_zero]; rfl) (fun K hK => ?_)
        go_simp
        (refine hK.out _ _ (Or.inl rfl) ?_; clear hK; (try simp only [Act.put, List.setIfInBounds_toArray, List.set_cons_zero, List.set_cons_succ]))
        refine wpX_done (by kernel_rfl) ?_ _
        go_wp2_with fail
        go_meet
        exact ⟨_, rfl, hM⟩
    case rest =>
      obtain ⟨gx, rfl, Au, cu, hX, ho, hb, hgx⟩ := hcut
      have hRc := hR.below hb (by omega)
      have hsz := hb.size
      have qx := hX.cell 0; have qr := hRc.cell 0
      simp at qx qr
      have zr := hRc.frozen 0
      have lr := hRc.lt; have lx := hX.lt
      have hbw : Below w.heap.size w wc := hb0.trans (hb.mono (by omega))
      by_cases hp : 0 < lo
      · have HZ := Lib.hid (timesT_pos (x := x) (lo := lo) (h := h) hp)
        have hpi : (0 : Int) < (lo : Int) := by omega
        go_wp2
        refine bodyPost_ret (v := .agg #[.slice Au M.length cu]) (by simp [results, Tryz.results110, go_sem, qr]) rfl ?_
        refine ⟨_, rfl, ?_, below_set hbw (by omega) _ _⟩
        rw [HZ.out, HM.out]
        exact ⟨_, rfl, own_mono (base' := w.heap.size) (own_set ho hRc (by decide) 0 _) (by omega)⟩
      · have HZ := Lib.hid (timesT_neg (x := x) (lo := lo) (h := h) hp)
        have hpi : ¬ (0 : Int) < (lo : Int) := by omega
        have HL2 : Hid (M.length + 1 + 1 ≤ 4000000000000) := Lib.hid (by
          have := HL.out; rw [← HM.out]; simp; omega)
        go_upto_region 6 with fail
        have hS0 : (fun w' : World => w'.cell? ⟨gx, 0, none⟩ = some (.slice Au M.length cu)) wc.drew := qx
        have hXD : Blk wc.drew gx 66 #[.slice Au M.length cu] := hX
        have hbD : Below wc.heap.size wc wc.drew := (Below.refl _ _).drew
        refine wp_region_X (fun w' : World => w'.cell? ⟨gx, 0, none⟩ = some (.slice Au M.length cu)) 4 (by kernel_rfl) ?_
        (refine wpX_take (i := 0) (v := ?_) (by simp only [List.getElem?_toArray, List.getElem?_cons_succ, List.getElem?_cons_zero]; rfl) (by kernel_rfl) (by kernel_rfl) (by kernel_rfl) (by kernel_rfl) (by exact fun _ _ _ h => h) (Or.inl ⟨by rfl, ?_⟩) (by assumption) ?_; rotate_left; (intro w hSw; (try dsimp only at hSw); go_simp); (try with_reducible rfl); (try simp only [Act.put, List.setIfInBounds_toArray, List.set_cons_zero, List.set_cons_succ]))
        (refine wpX_take (i := 2) (v := ?_) (by simp only [List.getElem?_toArray, List.getElem?_cons_succ, List.getElem?_cons_zero]; rfl) (by kernel_rfl) (by kernel_rfl) (by kernel_rfl) (by kernel_rfl) (by exact fun _ _ _ h => h) (Or.inl ⟨by rfl, ?_⟩) (by assumption) ?_; rotate_left; (intro w hSw; (try dsimp only at hSw); go_simp); (try with_reducible rfl); (try simp only [Act.put, List.setIfInBounds_toArray, List.set_cons_zero, List.set_cons_succ]))
        refine wpX_one (i := 1) (by kernel_rfl) (by simp only [List.getElem?_toArray, List.getElem?_cons_succ, List.getElem?_cons_zero]; rfl) (fun K hK => ?_)
        go_simp
        refine (l8Leaf_any 2 _).mono ?_
        rintro e w5 ⟨v5, rfl, hO5, hb5⟩
        have hX5 := hXD.below hb5 hXD.lt
        have s5 : (fun w' : World => w'.cell? ⟨gx, 0, none⟩ = some (.slice Au M.length cu)) w5 := hX5.cell 0
        (refine hK.out _ _ (Or.inr s5) ?_; clear hK; (try simp only [Act.put, List.setIfInBounds_toArray, List.set_cons_zero, List.set_cons_succ]))
        refine wpX_one (i := 3) (by kernel_rfl) (by simp only [List.getElem?_toArray, List.getElem?_cons_succ, List.getElem?_cons_zero]; rfl) (fun K hK => ?_)
        go_simp
        have hb05 := hbD.trans hb5
        have hT5 : Tks w5 (w.heap.size + 1 + 1 ≤ ·) Au M := Sl.of_own (own_below ho hb05) (fun b hb => own_ge ho b hb)
        refine (l8Join_any M [⟨2, 0, 0, 0⟩] _ _ 5 0 0 0 _ _ _ ⟨Au, cu, rfl, hT5⟩ hO5.ex HL2.out).mono ?_
        rintro e w6 ⟨v6, rfl, hO6, hb6⟩
        obtain ⟨A6, c6, rfl, ho6⟩ := hO6.form
        have hX6 := hX5.below hb6 hX5.lt
        have s6 : (fun w' : World => w'.cell? ⟨gx, 0, none⟩ = some (.slice Au M.length cu)) w6 := hX6.cell 0
        have hR6 := ((hRc.below hb05 hRc.lt)).below hb6 (by have := hb05.size; omega)
        have q6 := hR6.cell 0; have z6 := hR6.frozen 0; have l6 := hR6.lt
        simp at q6
        (refine hK.out _ _ (Or.inr s6) ?_; clear hK; (try simp only [Act.put, List.setIfInBounds_toArray, List.set_cons_zero, List.set_cons_succ]))
        refine wpX_one (i := 4) (by kernel_rfl) (by simp only [List.getElem?_toArray, List.getElem?_cons_succ, List.getElem?_cons_zero]; rfl) (fun K hK => ?_)
        go_simp
        (refine hK.out _ _ (Or.inl rfl) ?_; clear hK; (try simp only [Act.put, List.setIfInBounds_toArray, List.set_cons_zero, List.set_cons_succ]))
        refine wpX_done (by kernel_rfl) ?_ _
        go_wp2_with fail
        refine bodyPost_ret (v := .agg #[.slice A6 (M ++ [(⟨2, 0, 0, 0⟩ : Tk)] ++ [(⟨5, 0, 0, 0⟩ : Tk)]).length c6]) (by simp [results, Tryz.results110, go_sem, q6]) rfl ?_
        have hb56 : Below w.heap.size w w6 := hbw.trans ((hb05.mono hbw.size).trans (hb6.mono (Nat.le_trans hbw.size hb05.size)))
        refine ⟨_, rfl, ?_, below_set hb56 (by omega) _ _⟩
        rw [HZ.out, HM.out]
        exact ⟨_, rfl, own_mono (base' := w.heap.size) (own_set ho6 hR6 (by decide) 0 _) (Nat.le_trans hbw.size hb05.size)⟩
end Go.Proofs.YtmnhpbbapkcdjaaGreat
