/- Walks: l10Size, ExpandExpr; Walks: ExpandExpr; Positions as data, how they lie in memory. No condition. -/
import Derived.Test.YtmnhpbbapkcdjaaGreatA10

/- Walks: l10Size, ExpandExpr. -/
namespace Go.Proofs.YtmnhpbbapkcdjaaGreat
open Go.RowKit

def SzPost (w : World) (e : Ending) (w' : World) : Prop := ∃ n : Int, e = .returned (.int .i64 n) ∧ Below w.heap.size w w'
set_option maxRecDepth 100000 in
set_option maxHeartbeats 1000000 in
theorem sz_lf (t : Tk) (ht : arI t = 0) (A : Option Addr) (c : Nat) (p : Nat → Prop) (w : World) (h : Tks w p A [t]) :
    Calls Tryz.prog 93 #[.slice A 1 c] w fun e w' => SzPost w e w' := by
  obtain ⟨b, off, rfl, _, _, c0, c1, c2, c3⟩ := Tks.last (L := []) h
  have hk := arI_zero ht
  obtain ⟨k, l, lo, hi⟩ := t
  simp only at hk c0 c1 c2 c3
  simp at c0 c1 c2 c3
  rcases hk with rfl | rfl | rfl
  all_goals
    go_enter Tryz.func93, Tryz.ntmps93
    go_wp2
    go_ret
    exact ⟨_, rfl, below_alloc _ _⟩

set_option maxRecDepth 100000 in
set_option maxHeartbeats 1000000 in
theorem sz_six (a : Tr) (l lo hi : Int) (n : Nat) (hn : n = a.flat.length) (hl : n ≤ 23) (p : Nat → Prop)
    (ih : ∀ (A : Option Addr) (c : Nat) (w : World), Tks w p A a.flat → n ≤ c → Calls Tryz.prog 93 #[.slice A n c] w fun e w' => SzPost w e w')
    (A : Option Addr) (c : Nat) (hc : n + 1 ≤ c) (w : World) (h : Tks w p A (a.flat ++ [⟨6, l, lo, hi⟩])) :
    Calls Tryz.prog 93 #[.slice A (n + 1) c] w fun e w' => SzPost w e w' := by
  obtain ⟨b, off, rfl, _, _, c0, c1, c2, c3⟩ := Tks.last h
  simp only at c0 c1 c2 c3
  rw [← hn] at c0 c1 c2 c3
  have hT := h.un_
  have hB := Blk.new w 89 #[.int .i64 6, .int .i64 l, .int .i64 lo, .int .i64 hi]
  have hT0 := hT.al (.cells #[.int .i64 6, .int .i64 l, .int .i64 lo, .int .i64 hi] 89)
  clear hn
  have hci : (n : Int) ≤ (c : Int) := by omega
  obtain ⟨W0, hW0⟩ : ∃ W0, W0 = w.alloc (.cells #[.int .i64 6, .int .i64 l, .int .i64 lo, .int .i64 hi] 89) := ⟨_, rfl⟩
  have hb0 : Below w.heap.size w W0 := by rw [hW0]; exact below_alloc w _
  have hs0 : w.heap.size + 1 = W0.heap.size := by rw [hW0]; simp
  go_enter Tryz.func93, Tryz.ntmps93
  go_wp2_with fail
  rw [← hW0] at hT0 ⊢
  refine (ih (some ⟨b, off, none⟩) c _ hT0 (by omega)).mono ?_
  rintro e w3 ⟨x, rfl, hb3⟩
  go_wp2
  all_goals (go_ret; exact ⟨_, rfl, hb0.trans (hb3.mono (by omega))⟩)

set_option maxRecDepth 100000 in
set_option maxHeartbeats 1000000 in
theorem sz_seven (a : Tr) (l lo hi : Int) (n : Nat) (hn : n = a.flat.length) (hl : n ≤ 23) (p : Nat → Prop)
    (ih : ∀ (A : Option Addr) (c : Nat) (w : World), Tks w p A a.flat → n ≤ c → Calls Tryz.prog 93 #[.slice A n c] w fun e w' => SzPost w e w')
    (A : Option Addr) (c : Nat) (hc : n + 1 ≤ c) (w : World) (h : Tks w p A (a.flat ++ [⟨7, l, lo, hi⟩])) :
    Calls Tryz.prog 93 #[.slice A (n + 1) c] w fun e w' => SzPost w e w' := by
  obtain ⟨b, off, rfl, _, _, c0, c1, c2, c3⟩ := Tks.last h
  simp only at c0 c1 c2 c3
  rw [← hn] at c0 c1 c2 c3
  have hT := h.un_
  have hB := Blk.new w 89 #[.int .i64 7, .int .i64 l, .int .i64 lo, .int .i64 hi]
  have hT0 := hT.al (.cells #[.int .i64 7, .int .i64 l, .int .i64 lo, .int .i64 hi] 89)
  clear hn
  have hci : (n : Int) ≤ (c : Int) := by omega
  obtain ⟨W0, hW0⟩ : ∃ W0, W0 = w.alloc (.cells #[.int .i64 7, .int .i64 l, .int .i64 lo, .int .i64 hi] 89) := ⟨_, rfl⟩
  have hb0 : Below w.heap.size w W0 := by rw [hW0]; exact below_alloc w _
  have hs0 : w.heap.size + 1 = W0.heap.size := by rw [hW0]; simp
  go_enter Tryz.func93, Tryz.ntmps93
  go_upto_region 11 with fail
  rw [← hW0] at hT0 hB ⊢
  clear hW0
  have d3 := hB.cell 3
  simp at d3
  have hS0 : (fun w' : World => w'.cell? ⟨w.heap.size, 3, none⟩ = some (.int .i64 hi)) W0.drew := d3
  have hbD : Below W0.heap.size W0 W0.drew := (Below.refl _ _).drew
  refine wp_region_X (fun w' : World => w'.cell? ⟨w.heap.size, 3, none⟩ = some (.int .i64 hi)) 10 (by kernel_rfl) ?_
  (refine wpX_take (i := 0) (v := ?_) (by simp only [List.getElem?_toArray, List.getElem?_cons_succ, List.getElem?_cons_zero]; rfl) (by kernel_rfl) (by kernel_rfl) (by kernel_rfl) (by kernel_rfl) (by exact fun _ _ _ h => h) (Or.inl ⟨by rfl, ?_⟩) (by assumption) ?_; rotate_left; (intro w hSw; (try dsimp only at hSw); go_simp); (try with_reducible rfl); (try simp only [Act.put, List.setIfInBounds_toArray, List.set_cons_zero, List.set_cons_succ]))
  (refine wpX_take (i := 1) (v := ?_) (by simp only [List.getElem?_toArray, List.getElem?_cons_succ, List.getElem?_cons_zero]; rfl) (by kernel_rfl) (by kernel_rfl) (by kernel_rfl) (by kernel_rfl) (by exact fun _ _ _ h => h) (Or.inl ⟨by rfl, ?_⟩) (by assumption) ?_; rotate_left; (intro w hSw; (try dsimp only at hSw); go_simp); (try with_reducible rfl); (try simp only [Act.put, List.setIfInBounds_toArray, List.set_cons_zero, List.set_cons_succ]))
  (refine wpX_take (i := 2) (v := ?_) (by simp only [List.getElem?_toArray, List.getElem?_cons_succ, List.getElem?_cons_zero]; rfl) (by kernel_rfl) (by kernel_rfl) (by kernel_rfl) (by kernel_rfl) (by exact fun _ _ _ h => h) (Or.inl ⟨by rfl, ?_⟩) (by assumption) ?_; rotate_left; (intro w hSw; (try dsimp only at hSw); go_simp); (try with_reducible rfl); (try simp only [Act.put, List.setIfInBounds_toArray, List.set_cons_zero, List.set_cons_succ]))
  (refine wpX_take (i := 5) (v := ?_) (by simp only [List.getElem?_toArray, List.getElem?_cons_succ, List.getElem?_cons_zero]; rfl) (by kernel_rfl) (by kernel_rfl) (by kernel_rfl) (by kernel_rfl) (by exact fun _ _ _ h => h) (Or.inl ⟨by rfl, ?_⟩) (by assumption) ?_; rotate_left; (intro w hSw; (try dsimp only at hSw); go_simp); (try with_reducible rfl); (try simp only [Act.put, List.setIfInBounds_toArray, List.set_cons_zero, List.set_cons_succ]))
  (refine wpX_take (i := 6) (v := ?_) (by simp only [List.getElem?_toArray, List.getElem?_cons_succ, List.getElem?_cons_zero]; rfl) (by kernel_rfl) (by kernel_rfl) (by kernel_rfl) (by kernel_rfl) (by exact fun _ _ _ h => h) (Or.inl ⟨by rfl, ?_⟩) (by assumption) ?_; rotate_left; (intro w hSw; (try dsimp only at hSw); go_simp); (try with_reducible rfl); (try simp only [Act.put, List.setIfInBounds_toArray, List.set_cons_zero, List.set_cons_succ]))
  refine wpX_one (i := 3) (by kernel_rfl) (by simp only [List.getElem?_toArray, List.getElem?_cons_succ, List.getElem?_cons_zero]; rfl) (fun K hK => ?_)
  go_simp
  refine (ih (some ⟨b, off, none⟩) c _ (by exact hT0) (by omega)).mono ?_
  rintro e w3 ⟨y, rfl, hb3⟩
  have hb03 := hbD.trans hb3
  have s3 : (fun w' : World => w'.cell? ⟨w.heap.size, 3, none⟩ = some (.int .i64 hi)) w3 := (hB.below hb03 hB.lt).cell 3
  (refine hK.out _ _ (Or.inr s3) ?_; clear hK; (try simp only [Act.put, List.setIfInBounds_toArray, List.set_cons_zero, List.set_cons_succ]))
  (refine wpX_take (i := 4) (v := ?_) (by simp only [List.getElem?_toArray, List.getElem?_cons_succ, List.getElem?_cons_zero]; rfl) (by kernel_rfl) (by kernel_rfl) (by kernel_rfl) (by kernel_rfl) (by exact fun _ _ _ h => h) (Or.inl ⟨by rfl, ?_⟩) (by assumption) ?_; rotate_left; (intro w hSw; (try dsimp only at hSw); go_simp); (try with_reducible rfl); (try simp only [Act.put, List.setIfInBounds_toArray, List.set_cons_zero, List.set_cons_succ]))
  (refine wpX_take (i := 7) (v := ?_) (by simp only [List.getElem?_toArray, List.getElem?_cons_succ, List.getElem?_cons_zero]; rfl) (by kernel_rfl) (by kernel_rfl) (by kernel_rfl) (by kernel_rfl) (by exact fun _ _ _ h => h) (Or.inl ⟨by rfl, ?_⟩) (by assumption) ?_; rotate_left; (intro w hSw; (try dsimp only at hSw); go_simp); (try with_reducible rfl); (try simp only [Act.put, List.setIfInBounds_toArray, List.set_cons_zero, List.set_cons_succ]))
  (refine wpX_take (i := 8) (v := ?_) (by simp only [List.getElem?_toArray, List.getElem?_cons_succ, List.getElem?_cons_zero]; rfl) (by kernel_rfl) (by kernel_rfl) (by kernel_rfl) (by kernel_rfl) (by exact fun _ _ _ h => h) (Or.inl ⟨by rfl, ?_⟩) (by assumption) ?_; rotate_left; (intro w hSw; (try dsimp only at hSw); go_simp); (try with_reducible rfl); (try simp only [Act.put, List.setIfInBounds_toArray, List.set_cons_zero, List.set_cons_succ]))
  (refine wpX_take (i := 9) (v := ?_) (by simp only [List.getElem?_toArray, List.getElem?_cons_succ, List.getElem?_cons_zero]; rfl) (by kernel_rfl) (by kernel_rfl) (by kernel_rfl) (by kernel_rfl) (by exact fun _ _ _ h => h) (Or.inl ⟨by rfl, ?_⟩) (by assumption) ?_; rotate_left; (intro w hSw; (try dsimp only at hSw); go_simp); (try with_reducible rfl); (try simp only [Act.put, List.setIfInBounds_toArray, List.set_cons_zero, List.set_cons_succ]))
  refine wpX_one (i := 10) (by kernel_rfl) (by simp only [List.getElem?_toArray, List.getElem?_cons_succ, List.getElem?_cons_zero]; rfl) (fun K hK => ?_)
  go_simp
  (refine hK.out _ _ (Or.inl rfl) ?_; clear hK; (try simp only [Act.put, List.setIfInBounds_toArray, List.set_cons_zero, List.set_cons_succ]))
  refine wpX_done (by kernel_rfl) ?_ _
  go_wp2
  all_goals (go_ret; exact ⟨_, rfl, hb0.trans (hb03.mono (by omega))⟩)

set_option maxRecDepth 100000 in
set_option maxHeartbeats 1000000 in
theorem sz_four (a b : Tr) (hb : b.Ok) (l lo hi : Int) (n m : Nat) (hn : n = a.flat.length) (hm : m = b.flat.length) (hl : n + m ≤ 23) (p : Nat → Prop)
    (iha : ∀ (A : Option Addr) (c : Nat) (w : World), Tks w p A a.flat → n ≤ c → Calls Tryz.prog 93 #[.slice A n c] w fun e w' => SzPost w e w')
    (ihb : ∀ (A : Option Addr) (c : Nat) (w : World), Tks w p A b.flat → m ≤ c → Calls Tryz.prog 93 #[.slice A m c] w fun e w' => SzPost w e w')
    (A : Option Addr) (c : Nat) (hc : n + m + 1 ≤ c) (w : World) (h : Tks w p A (a.flat ++ b.flat ++ [⟨4, l, lo, hi⟩])) :
    Calls Tryz.prog 93 #[.slice A (n + m + 1) c] w fun e w' => SzPost w e w' := by
  obtain ⟨bb, off, rfl, _, _, c0, c1, c2, c3⟩ := Tks.last h
  simp only [List.length_append] at c0 c1 c2 c3
  rw [← hn, ← hm] at c0 c1 c2 c3
  have hT := h.un_
  have hTa := hT.left
  have hTb : Tks w p (some ⟨bb, off + n * 4, none⟩) b.flat := by rw [hn]; exact hT.right
  have hT0 := hT.al (.cells #[.int .i64 4, .int .i64 l, .int .i64 lo, .int .i64 hi] 89)
  have hTa0 := hTa.al (.cells #[.int .i64 4, .int .i64 l, .int .i64 lo, .int .i64 hi] 89)
  have hTb0 := hTb.al (.cells #[.int .i64 4, .int .i64 l, .int .i64 lo, .int .i64 hi] 89)
  have ihn := Lib.hid hn
  have ihm := Lib.hid hm
  have hpos := a.flat_pos
  have hposb := b.flat_pos
  have hnp : 0 < n := by omega
  have hmp : 0 < m := by omega
  clear hn hm hpos hposb
  have hci : (n : Int) + (m : Int) ≤ (c : Int) := by omega
  have hci2 : (n : Int) ≤ (c : Int) := by omega
  have hci3 : (n : Int) ≤ (n : Int) + (m : Int) := by omega
  obtain ⟨W0, hW0⟩ : ∃ W0, W0 = w.alloc (.cells #[.int .i64 4, .int .i64 l, .int .i64 lo, .int .i64 hi] 89) := ⟨_, rfl⟩
  have hb0 : Below w.heap.size w W0 := by rw [hW0]; exact below_alloc w _
  have hs0 : w.heap.size + 1 = W0.heap.size := by rw [hW0]; simp
  go_enter Tryz.func93, Tryz.ntmps93
  go_upto_region 7 with (first | (rw [← hW0]; go_at_call 95; refine (l8Start_any a.flat b hb (n + m) _ c p _ (by rw [← hW0] at hT0; exact hT0) (by have := ihn.out; have := ihm.out; simp; omega) (by have := ihn.out; have := ihm.out; simp; omega)).mono ?_; rintro e w1 ⟨rfl, hb1⟩))
  rw [← hW0] at hTa0 hTb0
  clear hW0
  have hTa1 := hTa0.below hb1
  rw [← ihn.out]
  have hS0 : (fun _ : World => True) w1.drew := trivial
  have hbD : Below W0.heap.size W0 w1.drew := hb1.drew
  refine wp_region_X (fun _ : World => True) 12 (by kernel_rfl) ?_
  (refine wpX_take (i := 0) (v := ?_) (by simp only [List.getElem?_toArray, List.getElem?_cons_succ, List.getElem?_cons_zero]; rfl) (by kernel_rfl) (by kernel_rfl) (by kernel_rfl) (by kernel_rfl) (by exact fun _ _ _ h => h) (Or.inl ⟨by rfl, ?_⟩) (by assumption) ?_; rotate_left; (intro w hSw; (try dsimp only at hSw); go_simp); (try with_reducible rfl); (try simp only [Act.put, List.setIfInBounds_toArray, List.set_cons_zero, List.set_cons_succ]))
  (refine wpX_take (i := 1) (v := ?_) (by simp only [List.getElem?_toArray, List.getElem?_cons_succ, List.getElem?_cons_zero]; rfl) (by kernel_rfl) (by kernel_rfl) (by kernel_rfl) (by kernel_rfl) (by exact fun _ _ _ h => h) (Or.inl ⟨by rfl, ?_⟩) (by assumption) ?_; rotate_left; (intro w hSw; (try dsimp only at hSw); go_simp); (try with_reducible rfl); (try simp only [Act.put, List.setIfInBounds_toArray, List.set_cons_zero, List.set_cons_succ]))
  (refine wpX_take (i := 2) (v := ?_) (by simp only [List.getElem?_toArray, List.getElem?_cons_succ, List.getElem?_cons_zero]; rfl) (by kernel_rfl) (by kernel_rfl) (by kernel_rfl) (by kernel_rfl) (by exact fun _ _ _ h => h) (Or.inl ⟨by rfl, ?_⟩) (by assumption) ?_; rotate_left; (intro w hSw; (try dsimp only at hSw); go_simp); (try with_reducible rfl); (try simp only [Act.put, List.setIfInBounds_toArray, List.set_cons_zero, List.set_cons_succ]))
  (refine wpX_take (i := 4) (v := ?_) (by simp only [List.getElem?_toArray, List.getElem?_cons_succ, List.getElem?_cons_zero]; rfl) (by kernel_rfl) (by kernel_rfl) (by kernel_rfl) (by kernel_rfl) (by exact fun _ _ _ h => h) (Or.inl ⟨by rfl, ?_⟩) (by assumption) ?_; rotate_left; (intro w hSw; (try dsimp only at hSw); go_simp); (try with_reducible rfl); (try simp only [Act.put, List.setIfInBounds_toArray, List.set_cons_zero, List.set_cons_succ]))
  (refine wpX_take (i := 5) (v := ?_) (by simp only [List.getElem?_toArray, List.getElem?_cons_succ, List.getElem?_cons_zero]; rfl) (by kernel_rfl) (by kernel_rfl) (by kernel_rfl) (by kernel_rfl) (by exact fun _ _ _ h => h) (Or.inl ⟨by rfl, ?_⟩) (by assumption) ?_; rotate_left; (intro w hSw; (try dsimp only at hSw); go_simp); (try with_reducible rfl); (try simp only [Act.put, List.setIfInBounds_toArray, List.set_cons_zero, List.set_cons_succ]))
  (refine wpX_take (i := 6) (v := ?_) (by simp only [List.getElem?_toArray, List.getElem?_cons_succ, List.getElem?_cons_zero]; rfl) (by kernel_rfl) (by kernel_rfl) (by kernel_rfl) (by kernel_rfl) (by exact fun _ _ _ h => h) (Or.inl ⟨by rfl, ?_⟩) (by assumption) ?_; rotate_left; (intro w hSw; (try dsimp only at hSw); go_simp); (try with_reducible rfl); (try simp only [Act.put, List.setIfInBounds_toArray, List.set_cons_zero, List.set_cons_succ]))
  (refine wpX_take (i := 7) (v := ?_) (by simp only [List.getElem?_toArray, List.getElem?_cons_succ, List.getElem?_cons_zero]; rfl) (by kernel_rfl) (by kernel_rfl) (by kernel_rfl) (by kernel_rfl) (by exact fun _ _ _ h => h) (Or.inl ⟨by rfl, ?_⟩) (by assumption) ?_; rotate_left; (intro w hSw; (try dsimp only at hSw); go_simp); (try with_reducible rfl); (try simp only [Act.put, List.setIfInBounds_toArray, List.set_cons_zero, List.set_cons_succ]))
  refine wpX_one (i := 3) (by kernel_rfl) (by simp only [List.getElem?_toArray, List.getElem?_cons_succ, List.getElem?_cons_zero]; rfl) (fun K hK => ?_)
  go_simp
  refine (iha (some ⟨bb, off, none⟩) c _ (by exact hTa1) (by omega)).mono ?_
  rintro e w3 ⟨x, rfl, hb3⟩
  have hb03 := hbD.trans (hb3.mono hb1.size)
  have hTb3 := hTb0.below hb03
  (refine hK.out _ _ (Or.inr trivial) ?_; clear hK; (try simp only [Act.put, List.setIfInBounds_toArray, List.set_cons_zero, List.set_cons_succ]))
  refine wpX_one (i := 8) (by kernel_rfl) (by simp only [List.getElem?_toArray, List.getElem?_cons_succ, List.getElem?_cons_zero]; rfl) (fun K hK => ?_)
  go_simp
  rw [if_neg (show ¬ c = n by omega), show ((n : Int) + (m : Int)).toNat - n = m by omega]
  refine (ihb _ (c - n) _ hTb3 (by omega)).mono ?_
  rintro e w4 ⟨y, rfl, hb4⟩
  have hb04 := hb03.trans (hb4.mono hb03.size)
  have hS4 : (fun _ : World => True) w4 := trivial
  (refine hK.out _ _ (Or.inr trivial) ?_; clear hK; (try simp only [Act.put, List.setIfInBounds_toArray, List.set_cons_zero, List.set_cons_succ]))
  (refine wpX_take (i := 9) (v := ?_) (by simp only [List.getElem?_toArray, List.getElem?_cons_succ, List.getElem?_cons_zero]; rfl) (by kernel_rfl) (by kernel_rfl) (by kernel_rfl) (by kernel_rfl) (by exact fun _ _ _ h => h) (Or.inl ⟨by rfl, ?_⟩) (by assumption) ?_; rotate_left; (intro w hSw; (try dsimp only at hSw); go_simp); (try with_reducible rfl); (try simp only [Act.put, List.setIfInBounds_toArray, List.set_cons_zero, List.set_cons_succ]))
  (refine wpX_take (i := 10) (v := ?_) (by simp only [List.getElem?_toArray, List.getElem?_cons_succ, List.getElem?_cons_zero]; rfl) (by kernel_rfl) (by kernel_rfl) (by kernel_rfl) (by kernel_rfl) (by exact fun _ _ _ h => h) (Or.inl ⟨by rfl, ?_⟩) (by assumption) ?_; rotate_left; (intro w hSw; (try dsimp only at hSw); go_simp); (try with_reducible rfl); (try simp only [Act.put, List.setIfInBounds_toArray, List.set_cons_zero, List.set_cons_succ]))
  (refine wpX_take (i := 11) (v := ?_) (by simp only [List.getElem?_toArray, List.getElem?_cons_succ, List.getElem?_cons_zero]; rfl) (by kernel_rfl) (by kernel_rfl) (by kernel_rfl) (by kernel_rfl) (by exact fun _ _ _ h => h) (Or.inl ⟨by rfl, ?_⟩) (by assumption) ?_; rotate_left; (intro w hSw; (try dsimp only at hSw); go_simp); (try with_reducible rfl); (try simp only [Act.put, List.setIfInBounds_toArray, List.set_cons_zero, List.set_cons_succ]))
  refine wpX_one (i := 12) (by kernel_rfl) (by simp only [List.getElem?_toArray, List.getElem?_cons_succ, List.getElem?_cons_zero]; rfl) (fun K hK => ?_)
  go_simp
  (refine hK.out _ _ (Or.inl rfl) ?_; clear hK; (try simp only [Act.put, List.setIfInBounds_toArray, List.set_cons_zero, List.set_cons_succ]))
  refine wpX_done (by kernel_rfl) ?_ _
  go_wp2
  all_goals (go_ret; exact ⟨_, rfl, hb0.trans (hb04.mono (by omega))⟩)

set_option maxRecDepth 100000 in
set_option maxHeartbeats 1000000 in
theorem sz_five (a b : Tr) (hb : b.Ok) (l lo hi : Int) (n m : Nat) (hn : n = a.flat.length) (hm : m = b.flat.length) (hl : n + m ≤ 23) (p : Nat → Prop)
    (iha : ∀ (A : Option Addr) (c : Nat) (w : World), Tks w p A a.flat → n ≤ c → Calls Tryz.prog 93 #[.slice A n c] w fun e w' => SzPost w e w')
    (ihb : ∀ (A : Option Addr) (c : Nat) (w : World), Tks w p A b.flat → m ≤ c → Calls Tryz.prog 93 #[.slice A m c] w fun e w' => SzPost w e w')
    (A : Option Addr) (c : Nat) (hc : n + m + 1 ≤ c) (w : World) (h : Tks w p A (a.flat ++ b.flat ++ [⟨5, l, lo, hi⟩])) :
    Calls Tryz.prog 93 #[.slice A (n + m + 1) c] w fun e w' => SzPost w e w' := by
  obtain ⟨bb, off, rfl, _, _, c0, c1, c2, c3⟩ := Tks.last h
  simp only [List.length_append] at c0 c1 c2 c3
  rw [← hn, ← hm] at c0 c1 c2 c3
  have hT := h.un_
  have hTa := hT.left
  have hTb : Tks w p (some ⟨bb, off + n * 4, none⟩) b.flat := by rw [hn]; exact hT.right
  have hT0 := hT.al (.cells #[.int .i64 5, .int .i64 l, .int .i64 lo, .int .i64 hi] 89)
  have hTa0 := hTa.al (.cells #[.int .i64 5, .int .i64 l, .int .i64 lo, .int .i64 hi] 89)
  have hTb0 := hTb.al (.cells #[.int .i64 5, .int .i64 l, .int .i64 lo, .int .i64 hi] 89)
  have ihn := Lib.hid hn
  have ihm := Lib.hid hm
  have hpos := a.flat_pos
  have hposb := b.flat_pos
  have hnp : 0 < n := by omega
  have hmp : 0 < m := by omega
  clear hn hm hpos hposb
  have hci : (n : Int) + (m : Int) ≤ (c : Int) := by omega
  have hci2 : (n : Int) ≤ (c : Int) := by omega
  have hci3 : (n : Int) ≤ (n : Int) + (m : Int) := by omega
  obtain ⟨W0, hW0⟩ : ∃ W0, W0 = w.alloc (.cells #[.int .i64 5, .int .i64 l, .int .i64 lo, .int .i64 hi] 89) := ⟨_, rfl⟩
  have hb0 : Below w.heap.size w W0 := by rw [hW0]; exact below_alloc w _
  have hs0 : w.heap.size + 1 = W0.heap.size := by rw [hW0]; simp
  go_enter Tryz.func93, Tryz.ntmps93
  go_upto_region 7 with (first | (rw [← hW0]; go_at_call 95; refine (l8Start_any a.flat b hb (n + m) _ c p _ (by rw [← hW0] at hT0; exact hT0) (by have := ihn.out; have := ihm.out; simp; omega) (by have := ihn.out; have := ihm.out; simp; omega)).mono ?_; rintro e w1 ⟨rfl, hb1⟩))
  rw [← hW0] at hTa0 hTb0
  clear hW0
  have hTa1 := hTa0.below hb1
  rw [← ihn.out]
  have hS0 : (fun _ : World => True) w1.drew := trivial
  have hbD : Below W0.heap.size W0 w1.drew := hb1.drew
  refine wp_region_X (fun _ : World => True) 12 (by kernel_rfl) ?_
  (refine wpX_take (i := 0) (v := ?_) (by simp only [List.getElem?_toArray, List.getElem?_cons_succ, List.getElem?_cons_zero]; rfl) (by kernel_rfl) (by kernel_rfl) (by kernel_rfl) (by kernel_rfl) (by exact fun _ _ _ h => h) (Or.inl ⟨by rfl, ?_⟩) (by assumption) ?_; rotate_left; (intro w hSw; (try dsimp only at hSw); go_simp); (try with_reducible rfl); (try simp only [Act.put, List.setIfInBounds_toArray, List.set_cons_zero, List.set_cons_succ]))
  (refine wpX_take (i := 1) (v := ?_) (by simp only [List.getElem?_toArray, List.getElem?_cons_succ, List.getElem?_cons_zero]; rfl) (by kernel_rfl) (by kernel_rfl) (by kernel_rfl) (by kernel_rfl) (by exact fun _ _ _ h => h) (Or.inl ⟨by rfl, ?_⟩) (by assumption) ?_; rotate_left; (intro w hSw; (try dsimp only at hSw); go_simp); (try with_reducible rfl); (try simp only [Act.put, List.setIfInBounds_toArray, List.set_cons_zero, List.set_cons_succ]))
  (refine wpX_take (i := 2) (v := ?_) (by simp only [List.getElem?_toArray, List.getElem?_cons_succ, List.getElem?_cons_zero]; rfl) (by kernel_rfl) (by kernel_rfl) (by kernel_rfl) (by kernel_rfl) (by exact fun _ _ _ h => h) (Or.inl ⟨by rfl, ?_⟩) (by assumption) ?_; rotate_left; (intro w hSw; (try dsimp only at hSw); go_simp); (try with_reducible rfl); (try simp only [Act.put, List.setIfInBounds_toArray, List.set_cons_zero, List.set_cons_succ]))
  (refine wpX_take (i := 4) (v := ?_) (by simp only [List.getElem?_toArray, List.getElem?_cons_succ, List.getElem?_cons_zero]; rfl) (by kernel_rfl) (by kernel_rfl) (by kernel_rfl) (by kernel_rfl) (by exact fun _ _ _ h => h) (Or.inl ⟨by rfl, ?_⟩) (by assumption) ?_; rotate_left; (intro w hSw; (try dsimp only at hSw); go_simp); (try with_reducible rfl); (try simp only [Act.put, List.setIfInBounds_toArray, List.set_cons_zero, List.set_cons_succ]))
  (refine wpX_take (i := 5) (v := ?_) (by simp only [List.getElem?_toArray, List.getElem?_cons_succ, List.getElem?_cons_zero]; rfl) (by kernel_rfl) (by kernel_rfl) (by kernel_rfl) (by kernel_rfl) (by exact fun _ _ _ h => h) (Or.inl ⟨by rfl, ?_⟩) (by assumption) ?_; rotate_left; (intro w hSw; (try dsimp only at hSw); go_simp); (try with_reducible rfl); (try simp only [Act.put, List.setIfInBounds_toArray, List.set_cons_zero, List.set_cons_succ]))
  (refine wpX_take (i := 6) (v := ?_) (by simp only [List.getElem?_toArray, List.getElem?_cons_succ, List.getElem?_cons_zero]; rfl) (by kernel_rfl) (by kernel_rfl) (by kernel_rfl) (by kernel_rfl) (by exact fun _ _ _ h => h) (Or.inl ⟨by rfl, ?_⟩) (by assumption) ?_; rotate_left; (intro w hSw; (try dsimp only at hSw); go_simp); (try with_reducible rfl); (try simp only [Act.put, List.setIfInBounds_toArray, List.set_cons_zero, List.set_cons_succ]))
  (refine wpX_take (i := 7) (v := ?_) (by simp only [List.getElem?_toArray, List.getElem?_cons_succ, List.getElem?_cons_zero]; rfl) (by kernel_rfl) (by kernel_rfl) (by kernel_rfl) (by kernel_rfl) (by exact fun _ _ _ h => h) (Or.inl ⟨by rfl, ?_⟩) (by assumption) ?_; rotate_left; (intro w hSw; (try dsimp only at hSw); go_simp); (try with_reducible rfl); (try simp only [Act.put, List.setIfInBounds_toArray, List.set_cons_zero, List.set_cons_succ]))
  refine wpX_one (i := 3) (by kernel_rfl) (by simp only [List.getElem?_toArray, List.getElem?_cons_succ, List.getElem?_cons_zero]; rfl) (fun K hK => ?_)
  go_simp
  refine (iha (some ⟨bb, off, none⟩) c _ (by exact hTa1) (by omega)).mono ?_
  rintro e w3 ⟨x, rfl, hb3⟩
  have hb03 := hbD.trans (hb3.mono hb1.size)
  have hTb3 := hTb0.below hb03
  (refine hK.out _ _ (Or.inr trivial) ?_; clear hK; (try simp only [Act.put, List.setIfInBounds_toArray, List.set_cons_zero, List.set_cons_succ]))
  refine wpX_one (i := 8) (by kernel_rfl) (by simp only [List.getElem?_toArray, List.getElem?_cons_succ, List.getElem?_cons_zero]; rfl) (fun K hK => ?_)
  go_simp
  rw [if_neg (show ¬ c = n by omega), show ((n : Int) + (m : Int)).toNat - n = m by omega]
  refine (ihb _ (c - n) _ hTb3 (by omega)).mono ?_
  rintro e w4 ⟨y, rfl, hb4⟩
  have hb04 := hb03.trans (hb4.mono hb03.size)
  have hS4 : (fun _ : World => True) w4 := trivial
  (refine hK.out _ _ (Or.inr trivial) ?_; clear hK; (try simp only [Act.put, List.setIfInBounds_toArray, List.set_cons_zero, List.set_cons_succ]))
  (refine wpX_take (i := 9) (v := ?_) (by simp only [List.getElem?_toArray, List.getElem?_cons_succ, List.getElem?_cons_zero]; rfl) (by kernel_rfl) (by kernel_rfl) (by kernel_rfl) (by kernel_rfl) (by exact fun _ _ _ h => h) (Or.inl ⟨by rfl, ?_⟩) (by assumption) ?_; rotate_left; (intro w hSw; (try dsimp only at hSw); go_simp); (try with_reducible rfl); (try simp only [Act.put, List.setIfInBounds_toArray, List.set_cons_zero, List.set_cons_succ]))
  (refine wpX_take (i := 10) (v := ?_) (by simp only [List.getElem?_toArray, List.getElem?_cons_succ, List.getElem?_cons_zero]; rfl) (by kernel_rfl) (by kernel_rfl) (by kernel_rfl) (by kernel_rfl) (by exact fun _ _ _ h => h) (Or.inl ⟨by rfl, ?_⟩) (by assumption) ?_; rotate_left; (intro w hSw; (try dsimp only at hSw); go_simp); (try with_reducible rfl); (try simp only [Act.put, List.setIfInBounds_toArray, List.set_cons_zero, List.set_cons_succ]))
  (refine wpX_take (i := 11) (v := ?_) (by simp only [List.getElem?_toArray, List.getElem?_cons_succ, List.getElem?_cons_zero]; rfl) (by kernel_rfl) (by kernel_rfl) (by kernel_rfl) (by kernel_rfl) (by exact fun _ _ _ h => h) (Or.inl ⟨by rfl, ?_⟩) (by assumption) ?_; rotate_left; (intro w hSw; (try dsimp only at hSw); go_simp); (try with_reducible rfl); (try simp only [Act.put, List.setIfInBounds_toArray, List.set_cons_zero, List.set_cons_succ]))
  refine wpX_one (i := 12) (by kernel_rfl) (by simp only [List.getElem?_toArray, List.getElem?_cons_succ, List.getElem?_cons_zero]; rfl) (fun K hK => ?_)
  go_simp
  (refine hK.out _ _ (Or.inl rfl) ?_; clear hK; (try simp only [Act.put, List.setIfInBounds_toArray, List.set_cons_zero, List.set_cons_succ]))
  refine wpX_done (by kernel_rfl) ?_ _
  go_wp2
  all_goals (go_ret; exact ⟨_, rfl, hb0.trans (hb04.mono (by omega))⟩)

theorem l10Size_any : ∀ (a : Tr) (p : Nat → Prop) (A : Option Addr) (c : Nat) (w : World), a.Ok → a.flat.length ≤ 24 → Tks w p A a.flat → a.flat.length ≤ c →
    Calls Tryz.prog 93 #[.slice A a.flat.length c] w fun e w' => SzPost w e w'
  | .lf t, p, A, c, w, ha, _, h, _ => sz_lf t ha A c p w h
  | .un a ⟨k, l, lo, hi⟩, p, A, c, w, ha, hl, h, hc => by
    have e : (Tr.un a ⟨k, l, lo, hi⟩).flat.length = a.flat.length + 1 := by simp [Tr.flat]
    rw [e] at hl hc ⊢
    have hk := arI_one ha.2
    simp only at hk
    rcases hk with rfl | rfl
    · exact sz_six a l lo hi _ rfl (by omega) p (fun A c w h hc => l10Size_any a p A c w ha.1 (by omega) h hc) A c hc w h
    · exact sz_seven a l lo hi _ rfl (by omega) p (fun A c w h hc => l10Size_any a p A c w ha.1 (by omega) h hc) A c hc w h
  | .bi a b ⟨k, l, lo, hi⟩, p, A, c, w, ha, hl, h, hc => by
    have e : (Tr.bi a b ⟨k, l, lo, hi⟩).flat.length = a.flat.length + b.flat.length + 1 := by simp [Tr.flat]; omega
    rw [e] at hl hc ⊢
    have hk := arI_two ha.2.2
    simp only at hk
    rcases hk with rfl | rfl
    · exact sz_four a b ha.2.1 l lo hi _ _ rfl rfl (by omega) p (fun A c w h hc => l10Size_any a p A c w ha.1 (by omega) h hc) (fun A c w h hc => l10Size_any b p A c w ha.2.1 (by omega) h hc) A c hc w h
    · exact sz_five a b ha.2.1 l lo hi _ _ rfl rfl (by omega) p (fun A c w h hc => l10Size_any a p A c w ha.1 (by omega) h hc) (fun A c w h hc => l10Size_any b p A c w ha.2.1 (by omega) h hc) A c hc w h
end Go.Proofs.YtmnhpbbapkcdjaaGreat

/- Walks: ExpandExpr. -/
namespace Go.Proofs.YtmnhpbbapkcdjaaGreat
open Go.RowKit

theorem own_cap {w : World} {base size n c : Nat} {e : TypeId} {A : Option Addr} {xs : List Value} (h : w.ownsRow base e size (.slice A n c) n xs) : n ≤ c := by
  rcases h.2 with ⟨hv, h0⟩ | ⟨g, cap, cur, hv, _, _, hn, _⟩
  · omega
  · injection hv with _ _ hc; omega
/-- the tokens' slice, with room enough -/
def ExC (w : World) (p : Nat → Prop) (v : Value) (L : List Tk) : Prop := ∃ A c, v = .agg #[.slice A L.length c] ∧ Tks w p A L ∧ L.length ≤ c
theorem ExO.exc {w : World} {base : Nat} {v : Value} {L : List Tk} (h : ExO w base v L) : ExC w (base ≤ ·) v L := by
  obtain ⟨A, c, rfl, ho⟩ := h.form
  exact ⟨A, c, rfl, Sl.of_own ho (fun b hb => own_ge ho b hb), own_cap ho⟩
def ExpRes (w : World) (e : Ending) (w' : World) : Prop :=
  ∃ v ok L, e = .returned (.tuple #[v, .bool ok]) ∧ ExO w' w.heap.size v L ∧ Below w.heap.size w w' ∧ (ok = true → L.length ≤ 400 ∧ ∃ t : Tr, t.Ok ∧ L = t.flat)
theorem ExO.none_ (w : World) (base : Nat) : ExO w base (.agg #[.slice none 0 0]) [] := ⟨_, rfl, World.ownsRow_nil _ _ _ _⟩

set_option maxRecDepth 100000 in
set_option maxHeartbeats 1000000 in
theorem ExpandExpr_any (L : List Tk) (v : Value) (p : Nat → Prop) (w : World) (h : ExC w p v L) :
    Calls Tryz.prog 81 #[v] w fun e w' => ExpRes w e w' := by
  obtain ⟨A, c, rfl, hT, hc⟩ := h
  have hT0 := (hT.al (.cells #[.slice A L.length c] 66)).al (.cells #[.slice none 0 0] 66)
  have hE := (Blk.new w 66 #[.slice A L.length c]).alloc (.cells #[.slice none 0 0] 66)
  have hR := blk2 w (.cells #[.slice A L.length c] 66) 66 #[.slice none 0 0]
  obtain ⟨W0, hW0⟩ : ∃ W0, W0 = (w.alloc (.cells #[.slice A L.length c] 66)).alloc (.cells #[.slice none 0 0] 66) := ⟨_, rfl⟩
  have hb0 : Below w.heap.size w W0 := by rw [hW0]; exact below_alloc2 w _ _
  have hs0 : w.heap.size + 1 + 1 = W0.heap.size := by rw [hW0]; simp
  go_enter Tryz.func81, Tryz.ntmps81
  go_wp2_with fail
  rw [← hW0] at hT0 hE hR ⊢
  clear hW0
  refine (IsValidExpr_any L A c p _ hT0).mono ?_
  rintro e w1 ⟨rfl, hb1⟩
  have hE1 := hE.below hb1 hE.lt
  have hR1 := hR.below hb1 hR.lt
  have hT1 := hT0.below hb1
  have q1 := hR1.cell 0; have f1 := hE1.cell 0
  simp at q1 f1
  have z1 := hR1.frozen 0
  have l1 := hR1.lt
  obtain ⟨B, HB⟩ : ∃ B, Hid ((decide (L.length ≤ 24) && isExB L) = B) := ⟨_, Lib.hid rfl⟩
  rw [HB.out]
  cases B with
  | false =>
    go_wp2
    refine bodyPost_ret (v := .tuple #[.agg #[.slice none 0 0], .bool false]) (by simp [results, Tryz.results81, go_sem, q1]) rfl ?_
    exact ⟨_, _, [], rfl, ExO.none_ _ _, below_set (hb0.trans (hb1.mono (by omega))) (by omega) _ _, fun h => by cases h⟩
  | true =>
    have hv := HB.out
    simp only [Bool.and_eq_true, decide_eq_true_eq] at hv
    obtain ⟨a, ha, rfl⟩ := isExB_tree hv.2
    have hl := hv.1
    clear HB
    go_wp2_with fail
    refine (l10Size_any a p A c _ ha hl hT1 hc).mono ?_
    rintro e w2 ⟨x, rfl, hb2⟩
    have hE2 := hE1.below hb2 hE1.lt
    have hR2 := hR1.below hb2 hR1.lt
    have hT2 := hT1.below hb2
    have q2 := hR2.cell 0; have f2 := hE2.cell 0
    simp at q2 f2
    have z2 := hR2.frozen 0
    have l2 := hR2.lt
    have hb02 : Below w.heap.size w w2 := (hb0.trans (hb1.mono (by omega))).trans (hb2.mono (by have := hb1.size; omega))
    by_cases hx : 5000 < x
    · go_wp2
      refine bodyPost_ret (v := .tuple #[.agg #[.slice none 0 0], .bool false]) (by simp [results, Tryz.results81, go_sem, q2]) rfl ?_
      exact ⟨_, _, [], rfl, ExO.none_ _ _, below_set hb02 (by omega) _ _, fun h => by cases h⟩
    · go_wp2_with fail
      refine (l10Expand_any a p A c _ ha hl hT2 hc).mono ?_
      rintro e w3 ⟨v3, rfl, hO3, hb3⟩
      have HO := Lib.hid (expT_ok ha)
      obtain ⟨M, HM⟩ : ∃ M, Hid ((expT a).flat = M) := ⟨_, Lib.hid rfl⟩
      rw [HM.out] at hO3
      obtain ⟨A3, c3, rfl, ho3⟩ := hO3.form
      have hR3 := hR2.below hb3 hR2.lt
      have q3 : ∀ u, ((w3.setCell ⟨w.heap.size + 1, 0, none⟩ u).alloc (.cells #[.slice A3 M.length c3] 66)).cell? ⟨w.heap.size + 1, 0, none⟩ = some u := fun u => by
        have := ((hR3.set_ 0 u).alloc (.cells #[.slice A3 M.length c3] 66)).cell 0
        simpa using this
      have q30 := hR3.cell 0
      simp at q30
      have z3 := hR3.frozen 0
      have l3 := hR3.lt
      have hb03 : Below w.heap.size w w3 := hb02.trans (hb3.mono hb02.size)
      have hm3 : M.length ≤ 9223372036854775807 := by have := (Sl.of_own (p := fun _ => True) ho3 (fun _ _ => trivial)).2.1; unfold maxLen at this; omega
      by_cases h4 : 400 < M.length
      · have h4i : (400 : Int) < (M.length : Int) := by omega
        go_wp2
        refine bodyPost_ret (v := .tuple #[.agg #[.slice none 0 0], .bool false]) (by simp [results, Tryz.results81, go_sem, q3]) rfl ?_
        exact ⟨_, _, [], rfl, ExO.none_ _ _, (below_set hb03 (by omega) _ _).trans ((below_alloc _ _).mono (by have := hb03.size; simp; omega)), fun h => by cases h⟩
      · have h4i : ¬ (400 : Int) < (M.length : Int) := by omega
        go_wp2
        refine bodyPost_ret (v := .tuple #[.agg #[.slice A3 M.length c3], .bool true]) (by simp [results, Tryz.results81, go_sem, q3]) rfl ?_
        have ho4 := own_below (own_set ho3 hR3 (by decide) 0 (.slice A3 M.length c3)) (below_alloc _ (.cells #[.slice A3 M.length c3] 66))
        exact ⟨_, _, M, rfl, ⟨_, rfl, own_mono (base' := w.heap.size) ho4 hb02.size⟩, (below_set hb03 (by omega) _ _).trans ((below_alloc _ _).mono (by have := hb03.size; simp; omega)), fun _ => ⟨by omega, _, HO.out, HM.out.symm⟩⟩
end Go.Proofs.YtmnhpbbapkcdjaaGreat

/- Positions as data, how they lie in memory. -/
namespace Go.Proofs.YtmnhpbbapkcdjaaGreat
open Go.RowKit

structure Pos where
  letters : List Int
  first : Int
  last : Int
  follow : List Int
  nullable : Bool
def Pos.n (a : Pos) : Nat := a.letters.length

def PosV (w : World) (p : Nat → Prop) (v : Value) (a : Pos) : Prop :=
  ∃ A1 n1 c1 A2 n2 c2, v = .agg #[.slice A1 n1 c1, .int .i64 a.first, .int .i64 a.last, .slice A2 n2 c2, .bool a.nullable] ∧ Sl w p 1 A1 n1 (ints a.letters) ∧ Sl w p 1 A2 n2 (ints a.follow)
theorem PosV.keep {w w' : World} {p : Nat → Prop} {v : Value} {a : Pos} (h : PosV w p v a) (hw : w.heap.size ≤ w'.heap.size) (hk : ∀ b, p b → b < w.heap.size → w'.heap[b]? = w.heap[b]?) : PosV w' p v a := by
  obtain ⟨A1, n1, c1, A2, n2, c2, rfl, h1, h2⟩ := h
  exact ⟨A1, n1, c1, A2, n2, c2, rfl, h1.keep hw hk, h2.keep hw hk⟩
theorem PosV.weak {w : World} {p q : Nat → Prop} {v : Value} {a : Pos} (h : PosV w p v a) (hq : ∀ b, p b → b < w.heap.size → q b) : PosV w q v a := by
  obtain ⟨A1, n1, c1, A2, n2, c2, rfl, h1, h2⟩ := h
  exact ⟨A1, n1, c1, A2, n2, c2, rfl, h1.weak hq, h2.weak hq⟩
theorem PosV.below {w w' : World} {p : Nat → Prop} {v : Value} {a : Pos} (h : PosV w p v a) (hb : Below w.heap.size w w') : PosV w' p v a := h.keep hb.size fun b _ hlt => hb.block b hlt
theorem PosV.alloc {w : World} {p : Nat → Prop} {v : Value} {a : Pos} (h : PosV w p v a) (o : Obj) : PosV (w.alloc o) p v a := h.keep (by simp) (fun b _ hb => Below.heap_alloc w _ b hb)
theorem PosV.drew {w : World} {p : Nat → Prop} {v : Value} {a : Pos} (h : PosV w p v a) : PosV w.drew p v a := h


/-- is bit i of x set? -/
def bt (x : Int) (i : Nat) : Bool := bits BinOp.and IntKind.i64 (x / 2 ^ i) 1 == 1
def orI (x y : Int) : Int := bits BinOp.or IntKind.i64 x y
def andI (x y : Int) : Int := bits BinOp.and IntKind.i64 x y
/-- 1 << i -/
def shl1 (i : Nat) : Int := wrap64 (2 ^ i)
/-- 1 << i - 1 -/
def mskI (i : Nat) : Int := wrap64 (shl1 i - 1)

def afStep (a : Pos) (set : Int) (m : Int) (i : Nat) : Int := if bt set (i + 1) = true then orI m (a.follow[i]?.getD 0) else m
def afM0 (a : Pos) (set : Int) : Int := if (bits BinOp.and IntKind.i64 set 1 == 1) = true then a.first else 0
def afM (a : Pos) (set : Int) : Int := upto (afStep a set) (afM0 a set) a.n
def ouStep (a : Pos) (m letter : Int) (o : Int) (i : Nat) : Int := if a.letters[i]?.getD 0 = letter ∧ bt m i = true then orI o (shl1 (i + 1)) else o
def afterI (a : Pos) (set letter : Int) : Int := upto (ouStep a (afM a set) letter) 0 a.n
def accI (a : Pos) (set : Int) : Bool := (andI set 1 == 1 && a.nullable) || (andI (set / 2) a.last != 0)

/-- what IsValidPositions asks -/
def Pos.Ok (a : Pos) : Prop := a.n ≤ 20 ∧ a.follow.length = a.n ∧ inB a.first 0 (mskI a.n) = true ∧ inB a.last 0 (mskI a.n) = true ∧
  ∀ i, i < a.n → isL (a.letters[i]?.getD 0) = true ∧ inB (a.follow[i]?.getD 0) 0 (mskI a.n) = true

theorem PosV.fit {w : World} {p : Nat → Prop} {v : Value} {a : Pos} (h : PosV w p v a) (hf : a.follow.length = a.n) :
    ∃ A1 c1 A2 c2, v = .agg #[.slice A1 a.n c1, .int .i64 a.first, .int .i64 a.last, .slice A2 a.n c2, .bool a.nullable] ∧ Sl w p 1 A1 a.n (ints a.letters) ∧ Sl w p 1 A2 a.n (ints a.follow) := by
  obtain ⟨A1, n1, c1, A2, n2, c2, rfl, h1, h2⟩ := h
  obtain rfl : a.n = n1 := h1.len1
  obtain rfl : a.n = n2 := by rw [← h2.len1]; exact hf.symm
  exact ⟨A1, c1, A2, c2, rfl, h1, h2⟩

theorem afStep_yes {a : Pos} {set m : Int} {k : Nat} (h : (bits BinOp.and IntKind.i64 (set / 2 ^ (k + 1)) 1 == 1) = true) : afStep a set m k = bits BinOp.or IntKind.i64 m (a.follow[k]?.getD 0) := by unfold afStep bt; rw [if_pos h]; rfl
theorem afStep_no {a : Pos} {set m : Int} {k : Nat} (h : (bits BinOp.and IntKind.i64 (set / 2 ^ (k + 1)) 1 == 1) = false) : afStep a set m k = m := by unfold afStep bt; rw [if_neg (by rw [h]; simp)]
theorem ouStep_yes {a : Pos} {m letter o : Int} {k : Nat} (h1 : a.letters[k]?.getD 0 = letter) (h : (bits BinOp.and IntKind.i64 (m / 2 ^ k) 1 == 1) = true) : ouStep a m letter o k = bits BinOp.or IntKind.i64 o (wrap64 (2 ^ (k + 1))) := by unfold ouStep bt; rw [if_pos ⟨h1, h⟩]; rfl
theorem ouStep_no1 {a : Pos} {m letter o : Int} {k : Nat} (h1 : ¬ a.letters[k]?.getD 0 = letter) : ouStep a m letter o k = o := by unfold ouStep; rw [if_neg (fun h => h1 h.1)]
theorem ouStep_no2 {a : Pos} {m letter o : Int} {k : Nat} (h : (bits BinOp.and IntKind.i64 (m / 2 ^ k) 1 == 1) = false) : ouStep a m letter o k = o := by unfold ouStep bt; rw [if_neg (fun h2 => by rw [h] at h2; cases h2.2)]

set_option maxRecDepth 100000 in
theorem l10After_any (a : Pos) (v : Value) (set letter : Int) (w : World) (p : Nat → Prop) (h : PosV w p v a) (hf : a.follow.length = a.n) (hn : a.n ≤ 20) :
    Calls Tryz.prog 36 #[v, .int .i64 set, .int .i64 letter] w fun e w' => e = .returned (.int .i64 (afterI a set letter)) ∧ Below w.heap.size w w' := by
  obtain ⟨A1, c1, A2, c2, rfl, h1, h2⟩ := h.fit hf
  have h1 := h1.alloc (.cells #[.slice A1 a.n c1, .int .i64 a.first, .int .i64 a.last, .slice A2 a.n c2, .bool a.nullable] 26)
  have h2 := h2.alloc (.cells #[.slice A1 a.n c1, .int .i64 a.first, .int .i64 a.last, .slice A2 a.n c2, .bool a.nullable] 26)
  have hb := below_alloc w (.cells #[.slice A1 a.n c1, .int .i64 a.first, .int .i64 a.last, .slice A2 a.n c2, .bool a.nullable] 26)
  clear hf
  cases hs : (bits BinOp.and IntKind.i64 set 1 == 1)
  all_goals
    have HS := Lib.hid hs
    go_enter Tryz.func36, Tryz.ntmps36
    go_wp2
    go_loop [7, 8] (fun m i => ∃ k : Nat, k ≤ a.n ∧ i = .int .i64 k ∧ m = .int .i64 (upto (afStep a set) (afM0 a set) k)) (fun _ i => a.n - (intOf i).toNat)
    case atStart => exact ⟨0, Nat.zero_le _, rfl, by rw [show upto (afStep a set) (afM0 a set) 0 = afM0 a set from rfl]; unfold afM0; rw [HS.out]; rfl⟩
    case round =>
      obtain ⟨k, hk, rfl, rfl⟩ := hrel
      by_cases hlt : k < a.n
      · obtain ⟨b, off, rfl, _, _, hc⟩ := h2.int_at hlt
        cases hbt : (bits BinOp.and IntKind.i64 (set / 2 ^ (k + 1)) 1 == 1) with
        | true =>
          have Hs := Lib.hid (afStep_yes (a := a) (m := upto (afStep a set) (afM0 a set) k) hbt)
          go_wp2
          go_round
          case rel => exact ⟨k + 1, by omega, by go_num, by rw [show upto (afStep a set) (afM0 a set) (k + 1) = afStep a set (upto (afStep a set) (afM0 a set) k) k from rfl, Hs.out]⟩
          case measure => simp [intOf]; omega
        | false =>
          have Hs := Lib.hid (afStep_no (a := a) (m := upto (afStep a set) (afM0 a set) k) hbt)
          go_wp2
          go_round
          case rel => exact ⟨k + 1, by omega, by go_num, by rw [show upto (afStep a set) (afM0 a set) (k + 1) = afStep a set (upto (afStep a set) (afM0 a set) k) k from rfl, Hs.out]⟩
          case measure => simp [intOf]; omega
      · obtain rfl : k = a.n := by omega
        have HM : Hid (upto (afStep a set) (afM0 a set) a.n = afM a set) := Lib.hid rfl
        rw [HM.out]
        go_wp2
        go_loop [9, 10] (fun o i => ∃ k : Nat, k ≤ a.n ∧ i = .int .i64 k ∧ o = .int .i64 (upto (ouStep a (afM a set) letter) 0 k)) (fun _ i => a.n - (intOf i).toNat)
        case atStart => exact ⟨0, Nat.zero_le _, rfl, rfl⟩
        case round =>
          obtain ⟨k, hk, rfl, rfl⟩ := hrel
          by_cases hlt : k < a.n
          · obtain ⟨b, off, rfl, _, _, hc⟩ := h1.int_at hlt
            cases hbt : (bits BinOp.and IntKind.i64 (afM a set / 2 ^ k) 1 == 1) with
            | true =>
              by_cases hl : a.letters[k]?.getD 0 = letter
              · have Hs := Lib.hid (ouStep_yes (o := upto (ouStep a (afM a set) letter) 0 k) hl hbt)
                have hl' : (a.letters[k]?.getD 0 == letter) = true := by simpa using hl
                clear hl
                go_wp2
                go_round
                case rel => exact ⟨k + 1, by omega, by go_num, by rw [show upto (ouStep a (afM a set) letter) 0 (k + 1) = ouStep a (afM a set) letter (upto (ouStep a (afM a set) letter) 0 k) k from rfl, Hs.out]⟩
                case measure => simp [intOf]; omega
              · have Hs := Lib.hid (ouStep_no1 (m := afM a set) (o := upto (ouStep a (afM a set) letter) 0 k) hl)
                have hl' : (a.letters[k]?.getD 0 == letter) = false := by simpa using hl
                clear hl
                go_wp2
                go_round
                case rel => exact ⟨k + 1, by omega, by go_num, by rw [show upto (ouStep a (afM a set) letter) 0 (k + 1) = ouStep a (afM a set) letter (upto (ouStep a (afM a set) letter) 0 k) k from rfl, Hs.out]⟩
                case measure => simp [intOf]; omega
            | false =>
              have Hs := Lib.hid (ouStep_no2 (a := a) (letter := letter) (o := upto (ouStep a (afM a set) letter) 0 k) hbt)
              go_wp2
              go_round
              case rel => exact ⟨k + 1, by omega, by go_num, by rw [show upto (ouStep a (afM a set) letter) 0 (k + 1) = ouStep a (afM a set) letter (upto (ouStep a (afM a set) letter) 0 k) k from rfl, Hs.out]⟩
              case measure => simp [intOf]; omega
          · obtain rfl : k = a.n := by omega
            go_wp2
            go_ret
            exact ⟨rfl, hb⟩
end Go.Proofs.YtmnhpbbapkcdjaaGreat
