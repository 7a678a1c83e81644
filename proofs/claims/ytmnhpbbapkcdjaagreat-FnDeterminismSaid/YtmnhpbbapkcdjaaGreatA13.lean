/- Walk: l10Build, the inner nodes; Walk: BuildPositions; Walks: l1Pick, FormatLetter, ParseLetter, l8Token, l8Read (some answer, no panic). No condition. -/
import Derived.Test.YtmnhpbbapkcdjaaGreatA12

/- Walk: l10Build, the inner nodes. -/
namespace Go.Proofs.YtmnhpbbapkcdjaaGreat
open Go.RowKit

theorem cntL_le : ∀ L : List Tk, cntL L ≤ L.length
  | [] => by simp [cntL]
  | t :: L => by
    have := cntL_le L
    simp only [cntL, List.length_cons]
    split <;> omega

set_option maxRecDepth 100000 in
set_option maxHeartbeats 1000000 in
theorem bld_seven (gp n : Nat) (a : Tr) (l lo hi : Int) (m : Nat) (hm : m = a.flat.length) (hl : m ≤ 1000000) (A : Option Addr) (c : Nat) (p : Nat → Prop) (w : World) (h : Tks w p A (a.flat ++ [⟨7, l, lo, hi⟩])) (hP : PB gp n w) :
    Calls Tryz.prog 82 #[.pointer (some ⟨gp, 0, none⟩), .slice A (m + 1) c] w fun e w' => BPost gp n (.un a ⟨7, l, lo, hi⟩) w e w' := by
  obtain ⟨b, off, rfl, _, _, c0, c1, c2, c3⟩ := Tks.last h
  simp only at c0 c1 c2 c3
  rw [← hm] at c0 c1 c2 c3
  have hlt := hP.lt
  clear hm
  go_enter Tryz.func82, Tryz.ntmps82
  go_wp2
  refine bodyPost_ret (v := .agg #[.bool false, .int .i64 0, .int .i64 0]) (by simp [results, Tryz.results82, go_sem]) rfl ?_
  exact ⟨_, _, _, n, rfl, hP.below (below_alloc2 w _ _), Fr.of (below_alloc2 w _ _) (by omega), by omega⟩

set_option maxRecDepth 100000 in
set_option maxHeartbeats 1000000 in
theorem bld_star (gp n : Nat) (a : Tr) (l lo hi : Int) (m : Nat) (hm : m = a.flat.length) (hl : m ≤ 1000000) (A : Option Addr) (c : Nat) (hc : m + 1 ≤ c) (p : Nat → Prop) (hp : ∀ b, p b → b < gp)
    (ih : ∀ (A : Option Addr) (c n : Nat) (w : World), n + cntL a.flat ≤ 50000 → Tks w p A a.flat → m ≤ c → PB gp n w → Calls Tryz.prog 82 #[.pointer (some ⟨gp, 0, none⟩), .slice A m c] w fun e w' => BPost gp n a w e w')
    (w : World) (h : Tks w p A (a.flat ++ [⟨6, l, lo, hi⟩])) (hP : PB gp n w) (hn : n + cntL a.flat ≤ 50000) :
    Calls Tryz.prog 82 #[.pointer (some ⟨gp, 0, none⟩), .slice A (m + 1) c] w fun e w' => BPost gp n (.un a ⟨6, l, lo, hi⟩) w e w' := by
  obtain ⟨b, off, rfl, _, _, c0, c1, c2, c3⟩ := Tks.last h
  simp only at c0 c1 c2 c3
  rw [← hm] at c0 c1 c2 c3
  have hlt := hP.lt
  have hT := h.un_
  have hC : Hid (cntL (Tr.un a ⟨6, l, lo, hi⟩).flat = cntL a.flat) := Lib.hid (by simp [Tr.flat, cntL_app, cntL])
  clear hm
  have hci : (m : Int) ≤ (c : Int) := by omega
  have hR := (Blk.new w 91 #[.bool false, .int .i64 0, .int .i64 0]).alloc (.cells #[.int .i64 6, .int .i64 l, .int .i64 lo, .int .i64 hi] 89)
  have hT0 := (hT.al (.cells #[.bool false, .int .i64 0, .int .i64 0] 91)).al (.cells #[.int .i64 6, .int .i64 l, .int .i64 lo, .int .i64 hi] 89)
  have hP0 := hP.below (below_alloc2 w (.cells #[.bool false, .int .i64 0, .int .i64 0] 91) (.cells #[.int .i64 6, .int .i64 l, .int .i64 lo, .int .i64 hi] 89))
  obtain ⟨W0, hW0⟩ : ∃ W0, W0 = (w.alloc (.cells #[.bool false, .int .i64 0, .int .i64 0] 91)).alloc (.cells #[.int .i64 6, .int .i64 l, .int .i64 lo, .int .i64 hi] 89) := ⟨_, rfl⟩
  have hb0 : Fr gp w W0 := by rw [hW0]; exact Fr.of (below_alloc2 w _ _) (by omega)
  have hs0 : w.heap.size + 1 + 1 = W0.heap.size := by rw [hW0]; simp
  go_enter Tryz.func82, Tryz.ntmps82
  go_wp2_with fail
  rw [← hW0] at hT0 hR hP0 ⊢
  clear hW0
  refine (ih (some ⟨b, off, none⟩) c n _ (by omega) hT0 (by omega) hP0).mono ?_
  rintro e w3 ⟨b1, f1, l1, n1, rfl, hP1, hF1, hn1⟩
  have hs3 := hF1.1.size
  have hlt3 := hP1.lt
  have hR3 := hF1.2 _ _ _ hR (by decide) (by omega)
  have hsz3 : w.heap.size < w3.heap.size := hR3.lt
  have hFa := Fr.of (below_alloc w3 (.cells #[.bool b1, .int .i64 f1, .int .i64 l1] 91)) (Nat.le_of_lt hlt3)
  go_wp2_with fail
  refine (l10Link_any gp n1 l1 f1 _ (hP1.below (below_alloc w3 _)) (by omega)).mono ?_
  rintro e w4 ⟨rfl, hP4, hF4⟩
  have hA4 := hF4.2 _ _ _ (Blk.new w3 91 #[.bool b1, .int .i64 f1, .int .i64 l1]) (by decide) (by omega)
  have hR4 := hF4.2 _ _ _ (hR3.alloc (.cells #[.bool b1, .int .i64 f1, .int .i64 l1] 91)) (by decide) (by omega)
  have a1 := hA4.cell 1; have a2 := hA4.cell 2
  have r0 := hR4.cell 0; have r1 := hR4.cell 1; have r2 := hR4.cell 2
  simp at a1 a2 r0 r1 r2
  have z0 := hR4.frozen 0; have z1 := hR4.frozen 1; have z2 := hR4.frozen 2
  have l4 := hR4.lt
  go_wp2_with fail
  refine bodyPost_ret (v := .agg #[.bool true, .int .i64 f1, .int .i64 l1]) (by simp [results, Tryz.results82, go_sem, r0, r1, r2]) rfl ?_
  exact ⟨_, _, _, n1, rfl, hP4.part3 hR4, (((hb0.trans hF1).trans hFa).trans hF4).part3 (Nat.le_refl _) hlt, by rw [hC.out]; exact hn1⟩

set_option maxRecDepth 100000 in
set_option maxHeartbeats 2000000 in
theorem bld_union (gp n : Nat) (a b : Tr) (hb : b.Ok) (l lo hi : Int) (m k : Nat) (hm : m = a.flat.length) (hk : k = b.flat.length) (hl : m + k ≤ 1000000) (A : Option Addr) (c : Nat) (hc : m + k + 1 ≤ c) (p : Nat → Prop) (hp : ∀ b, p b → b < gp)
    (iha : ∀ (A : Option Addr) (c n : Nat) (w : World), n + cntL a.flat ≤ 50000 → Tks w p A a.flat → m ≤ c → PB gp n w → Calls Tryz.prog 82 #[.pointer (some ⟨gp, 0, none⟩), .slice A m c] w fun e w' => BPost gp n a w e w')
    (ihb : ∀ (A : Option Addr) (c n : Nat) (w : World), n + cntL b.flat ≤ 50000 → Tks w p A b.flat → k ≤ c → PB gp n w → Calls Tryz.prog 82 #[.pointer (some ⟨gp, 0, none⟩), .slice A k c] w fun e w' => BPost gp n b w e w')
    (w : World) (h : Tks w p A (a.flat ++ b.flat ++ [⟨5, l, lo, hi⟩])) (hP : PB gp n w) (hn : n + cntL a.flat + cntL b.flat ≤ 50000) :
    Calls Tryz.prog 82 #[.pointer (some ⟨gp, 0, none⟩), .slice A (m + k + 1) c] w fun e w' => BPost gp n (.bi a b ⟨5, l, lo, hi⟩) w e w' := by
  obtain ⟨bb, off, rfl, _, _, c0, c1, c2, c3⟩ := Tks.last h
  simp only [List.length_append] at c0 c1 c2 c3
  rw [← hm, ← hk] at c0 c1 c2 c3
  have hlt := hP.lt
  have hT := h.un_
  have hTa := hT.left
  have hTb : Tks w p (some ⟨bb, off + m * 4, none⟩) b.flat := by rw [hm]; exact hT.right
  have hC : Hid (cntL (Tr.bi a b ⟨5, l, lo, hi⟩).flat = cntL a.flat + cntL b.flat) := Lib.hid (by simp [Tr.flat, cntL_app, cntL])
  have hR := (Blk.new w 91 #[.bool false, .int .i64 0, .int .i64 0]).alloc (.cells #[.int .i64 5, .int .i64 l, .int .i64 lo, .int .i64 hi] 89)
  have hT0 := (hT.al (.cells #[.bool false, .int .i64 0, .int .i64 0] 91)).al (.cells #[.int .i64 5, .int .i64 l, .int .i64 lo, .int .i64 hi] 89)
  have hTa0 := (hTa.al (.cells #[.bool false, .int .i64 0, .int .i64 0] 91)).al (.cells #[.int .i64 5, .int .i64 l, .int .i64 lo, .int .i64 hi] 89)
  have hTb0 := (hTb.al (.cells #[.bool false, .int .i64 0, .int .i64 0] 91)).al (.cells #[.int .i64 5, .int .i64 l, .int .i64 lo, .int .i64 hi] 89)
  have hP0 := hP.below (below_alloc2 w (.cells #[.bool false, .int .i64 0, .int .i64 0] 91) (.cells #[.int .i64 5, .int .i64 l, .int .i64 lo, .int .i64 hi] 89))
  have ihm := Lib.hid hm
  have ihk := Lib.hid hk
  have hpa := a.flat_pos
  have hpb := b.flat_pos
  have hmp : 0 < m := by omega
  have hkp : 0 < k := by omega
  clear hm hk hpa hpb
  have hci : (m : Int) + (k : Int) ≤ (c : Int) := by omega
  have hci2 : (m : Int) ≤ (c : Int) := by omega
  have hci3 : (m : Int) ≤ (m : Int) + (k : Int) := by omega
  obtain ⟨W0, hW0⟩ : ∃ W0, W0 = (w.alloc (.cells #[.bool false, .int .i64 0, .int .i64 0] 91)).alloc (.cells #[.int .i64 5, .int .i64 l, .int .i64 lo, .int .i64 hi] 89) := ⟨_, rfl⟩
  have hb0 : Fr gp w W0 := by rw [hW0]; exact Fr.of (below_alloc2 w _ _) (by omega)
  have hs0 : w.heap.size + 1 + 1 = W0.heap.size := by rw [hW0]; simp
  go_enter Tryz.func82, Tryz.ntmps82
  go_wp2_with fail
  rw [← hW0] at hT0 hTa0 hTb0 hR hP0 ⊢
  clear hW0
  refine (l8Start_any a.flat b hb (m + k) _ c p _ hT0 (by have := ihm.out; have := ihk.out; simp; omega) (by have := ihm.out; have := ihk.out; simp; omega)).mono ?_
  rintro e w1 ⟨rfl, hb1⟩
  rw [← ihm.out]
  have hF1 := Fr.of (gp := gp) hb1 (by omega)
  have hs1 := hb1.size
  have hR1 := hR.below hb1 hR.lt
  have hTb1 := hTb0.below hb1
  go_wp2_with fail
  refine (iha (some ⟨bb, off, none⟩) c n _ (by omega) (hTa0.below hb1) (by omega) (hP0.below hb1)).mono ?_
  rintro e w3 ⟨b1, f1, l1, n1, rfl, hP3, hF3, hn1⟩
  have hs3 := hF3.1.size
  have hlt3 := hP3.lt
  have hR3 := (hF3.2 _ _ _ hR1 (by decide) (by omega)).alloc (.cells #[.bool b1, .int .i64 f1, .int .i64 l1] 91)
  have hA3 := Blk.new w3 91 #[.bool b1, .int .i64 f1, .int .i64 l1]
  have hTb3 := (hTb1.keep hF3.1.size (fun x hx _ => hF3.1.block x (hp x hx))).al (.cells #[.bool b1, .int .i64 f1, .int .i64 l1] 91)
  have hP4 := hP3.below (below_alloc w3 (.cells #[.bool b1, .int .i64 f1, .int .i64 l1] 91))
  have hFa := Fr.of (below_alloc w3 (.cells #[.bool b1, .int .i64 f1, .int .i64 l1] 91)) (Nat.le_of_lt hlt3)
  go_wp2_with fail
  try rw [if_neg (show ¬ c = m by omega)]
  try rw [show ((m : Int) + (k : Int)).toNat - m = k by omega]
  refine (ihb _ (c - m) n1 _ (by omega) hTb3 (by omega) hP4).mono ?_
  rintro e w5 ⟨b2, f2, l2, n2, rfl, hP5, hF5, hn2⟩
  have hs5 := hF5.1.size
  simp at hs5
  have hlt5 := hP5.lt
  have hR5 := (hF5.2 _ _ _ hR3 (by decide) (by omega)).alloc (.cells #[.bool b2, .int .i64 f2, .int .i64 l2] 91)
  have hA5 := (hF5.2 _ _ _ hA3 (by decide) (by omega)).alloc (.cells #[.bool b2, .int .i64 f2, .int .i64 l2] 91)
  have hP6 := hP5.below (below_alloc w5 (.cells #[.bool b2, .int .i64 f2, .int .i64 l2] 91))
  have hB5 := Blk.new w5 91 #[.bool b2, .int .i64 f2, .int .i64 l2]
  have hFb := Fr.of (below_alloc w5 (.cells #[.bool b2, .int .i64 f2, .int .i64 l2] 91)) (Nat.le_of_lt hlt5)
  have hF : Fr gp w (w5.alloc (.cells #[.bool b2, .int .i64 f2, .int .i64 l2] 91)) := ((((hb0.trans hF1).trans hF3).trans hFa).trans hF5).trans hFb
  have hnn : n2 ≤ n + cntL a.flat + cntL b.flat := by omega
  have a0 := hA5.cell 0; have a1 := hA5.cell 1; have a2 := hA5.cell 2
  have r0 := hR5.cell 0; have r1 := hR5.cell 1; have r2 := hR5.cell 2
  have z0 := hR5.frozen 0; have z1 := hR5.frozen 1; have z2 := hR5.frozen 2
  have l5 := hR5.lt; have l5a := hA5.lt
  simp at l5 l5a
  have l5b : w.heap.size < w5.heap.size := (hF5.2 _ _ _ hR3 (by decide) (by omega)).lt
  have q5b : w3.heap.size < w5.heap.size := (hF5.2 _ _ _ hA3 (by decide) (by omega)).lt
  have a0' := (hF5.2 _ _ _ hA3 (by decide) (by omega)).cell 0; have a1' := (hF5.2 _ _ _ hA3 (by decide) (by omega)).cell 1; have a2' := (hF5.2 _ _ _ hA3 (by decide) (by omega)).cell 2
  have r0' := (hF5.2 _ _ _ hR3 (by decide) (by omega)).cell 0; have r1' := (hF5.2 _ _ _ hR3 (by decide) (by omega)).cell 1; have r2' := (hF5.2 _ _ _ hR3 (by decide) (by omega)).cell 2
  have z0' := (hF5.2 _ _ _ hR3 (by decide) (by omega)).frozen 0; have z1' := (hF5.2 _ _ _ hR3 (by decide) (by omega)).frozen 1; have z2' := (hF5.2 _ _ _ hR3 (by decide) (by omega)).frozen 2
  simp at a0 a1 a2 r0 r1 r2 a0' a1' a2' r0' r1' r2'
  have hRw := hF5.2 _ _ _ hR3 (by decide) (by omega)
  have hFw : Fr gp w w5 := (((hb0.trans hF1).trans hF3).trans hFa).trans hF5
  clear hF hFb hR5 hA5 hB5 hP6
  cases b1 with
  | false =>
    have T := (hRw.set3 (x' := .bool b2) (y' := .int .i64 (bits BinOp.or IntKind.i64 f1 f2)) (z' := .int .i64 (bits BinOp.or IntKind.i64 l1 l2))).alloc (.cells #[.bool b2, .int .i64 f2, .int .i64 l2] 91)
    have t0 := T.cell 0; have t1 := T.cell 1; have t2 := T.cell 2
    simp at t0 t1 t2
    go_wp2_with fail
    refine bodyPost_ret (v := .agg #[.bool b2, .int .i64 (bits BinOp.or IntKind.i64 f1 f2), .int .i64 (bits BinOp.or IntKind.i64 l1 l2)]) (by simp [results, Tryz.results82, go_sem, t0, t1, t2]) rfl ?_
    have hp8 := (hP5).part3 (x := .bool b2) (y := .int .i64 (bits BinOp.or IntKind.i64 f1 f2)) (z := .int .i64 (bits BinOp.or IntKind.i64 l1 l2)) hRw
    exact ⟨_, _, _, n2, rfl, hp8.below (below_alloc _ _), ((hFw).part3 (Nat.le_refl _) hlt).trans (Fr.of (below_alloc _ _) (Nat.le_of_lt hp8.lt)), by rw [hC.out]; omega⟩
  | true =>
    have T := (hRw.set3 (x' := .bool true) (y' := .int .i64 (bits BinOp.or IntKind.i64 f1 f2)) (z' := .int .i64 (bits BinOp.or IntKind.i64 l1 l2))).alloc (.cells #[.bool b2, .int .i64 f2, .int .i64 l2] 91)
    have t0 := T.cell 0; have t1 := T.cell 1; have t2 := T.cell 2
    simp at t0 t1 t2
    go_wp2_with fail
    refine bodyPost_ret (v := .agg #[.bool true, .int .i64 (bits BinOp.or IntKind.i64 f1 f2), .int .i64 (bits BinOp.or IntKind.i64 l1 l2)]) (by simp [results, Tryz.results82, go_sem, t0, t1, t2]) rfl ?_
    have hp8 := (hP5).part3 (x := .bool true) (y := .int .i64 (bits BinOp.or IntKind.i64 f1 f2)) (z := .int .i64 (bits BinOp.or IntKind.i64 l1 l2)) hRw
    exact ⟨_, _, _, n2, rfl, hp8.below (below_alloc _ _), ((hFw).part3 (Nat.le_refl _) hlt).trans (Fr.of (below_alloc _ _) (Nat.le_of_lt hp8.lt)), by rw [hC.out]; omega⟩

set_option maxRecDepth 100000 in
set_option maxHeartbeats 2000000 in
theorem bld_concat (gp n : Nat) (a b : Tr) (hb : b.Ok) (l lo hi : Int) (m k : Nat) (hm : m = a.flat.length) (hk : k = b.flat.length) (hl : m + k ≤ 1000000) (A : Option Addr) (c : Nat) (hc : m + k + 1 ≤ c) (p : Nat → Prop) (hp : ∀ b, p b → b < gp)
    (iha : ∀ (A : Option Addr) (c n : Nat) (w : World), n + cntL a.flat ≤ 50000 → Tks w p A a.flat → m ≤ c → PB gp n w → Calls Tryz.prog 82 #[.pointer (some ⟨gp, 0, none⟩), .slice A m c] w fun e w' => BPost gp n a w e w')
    (ihb : ∀ (A : Option Addr) (c n : Nat) (w : World), n + cntL b.flat ≤ 50000 → Tks w p A b.flat → k ≤ c → PB gp n w → Calls Tryz.prog 82 #[.pointer (some ⟨gp, 0, none⟩), .slice A k c] w fun e w' => BPost gp n b w e w')
    (w : World) (h : Tks w p A (a.flat ++ b.flat ++ [⟨4, l, lo, hi⟩])) (hP : PB gp n w) (hn : n + cntL a.flat + cntL b.flat ≤ 50000) :
    Calls Tryz.prog 82 #[.pointer (some ⟨gp, 0, none⟩), .slice A (m + k + 1) c] w fun e w' => BPost gp n (.bi a b ⟨4, l, lo, hi⟩) w e w' := by
  obtain ⟨bb, off, rfl, _, _, c0, c1, c2, c3⟩ := Tks.last h
  simp only [List.length_append] at c0 c1 c2 c3
  rw [← hm, ← hk] at c0 c1 c2 c3
  have hlt := hP.lt
  have hT := h.un_
  have hTa := hT.left
  have hTb : Tks w p (some ⟨bb, off + m * 4, none⟩) b.flat := by rw [hm]; exact hT.right
  have hC : Hid (cntL (Tr.bi a b ⟨4, l, lo, hi⟩).flat = cntL a.flat + cntL b.flat) := Lib.hid (by simp [Tr.flat, cntL_app, cntL])
  have hR := (Blk.new w 91 #[.bool false, .int .i64 0, .int .i64 0]).alloc (.cells #[.int .i64 4, .int .i64 l, .int .i64 lo, .int .i64 hi] 89)
  have hT0 := (hT.al (.cells #[.bool false, .int .i64 0, .int .i64 0] 91)).al (.cells #[.int .i64 4, .int .i64 l, .int .i64 lo, .int .i64 hi] 89)
  have hTa0 := (hTa.al (.cells #[.bool false, .int .i64 0, .int .i64 0] 91)).al (.cells #[.int .i64 4, .int .i64 l, .int .i64 lo, .int .i64 hi] 89)
  have hTb0 := (hTb.al (.cells #[.bool false, .int .i64 0, .int .i64 0] 91)).al (.cells #[.int .i64 4, .int .i64 l, .int .i64 lo, .int .i64 hi] 89)
  have hP0 := hP.below (below_alloc2 w (.cells #[.bool false, .int .i64 0, .int .i64 0] 91) (.cells #[.int .i64 4, .int .i64 l, .int .i64 lo, .int .i64 hi] 89))
  have ihm := Lib.hid hm
  have ihk := Lib.hid hk
  have hpa := a.flat_pos
  have hpb := b.flat_pos
  have hmp : 0 < m := by omega
  have hkp : 0 < k := by omega
  clear hm hk hpa hpb
  have hci : (m : Int) + (k : Int) ≤ (c : Int) := by omega
  have hci2 : (m : Int) ≤ (c : Int) := by omega
  have hci3 : (m : Int) ≤ (m : Int) + (k : Int) := by omega
  obtain ⟨W0, hW0⟩ : ∃ W0, W0 = (w.alloc (.cells #[.bool false, .int .i64 0, .int .i64 0] 91)).alloc (.cells #[.int .i64 4, .int .i64 l, .int .i64 lo, .int .i64 hi] 89) := ⟨_, rfl⟩
  have hb0 : Fr gp w W0 := by rw [hW0]; exact Fr.of (below_alloc2 w _ _) (by omega)
  have hs0 : w.heap.size + 1 + 1 = W0.heap.size := by rw [hW0]; simp
  go_enter Tryz.func82, Tryz.ntmps82
  go_wp2_with fail
  rw [← hW0] at hT0 hTa0 hTb0 hR hP0 ⊢
  clear hW0
  refine (l8Start_any a.flat b hb (m + k) _ c p _ hT0 (by have := ihm.out; have := ihk.out; simp; omega) (by have := ihm.out; have := ihk.out; simp; omega)).mono ?_
  rintro e w1 ⟨rfl, hb1⟩
  rw [← ihm.out]
  have hF1 := Fr.of (gp := gp) hb1 (by omega)
  have hs1 := hb1.size
  have hR1 := hR.below hb1 hR.lt
  have hTb1 := hTb0.below hb1
  go_wp2_with fail
  refine (iha (some ⟨bb, off, none⟩) c n _ (by omega) (hTa0.below hb1) (by omega) (hP0.below hb1)).mono ?_
  rintro e w3 ⟨b1, f1, l1, n1, rfl, hP3, hF3, hn1⟩
  have hs3 := hF3.1.size
  have hlt3 := hP3.lt
  have hR3 := (hF3.2 _ _ _ hR1 (by decide) (by omega)).alloc (.cells #[.bool b1, .int .i64 f1, .int .i64 l1] 91)
  have hA3 := Blk.new w3 91 #[.bool b1, .int .i64 f1, .int .i64 l1]
  have hTb3 := (hTb1.keep hF3.1.size (fun x hx _ => hF3.1.block x (hp x hx))).al (.cells #[.bool b1, .int .i64 f1, .int .i64 l1] 91)
  have hP4 := hP3.below (below_alloc w3 (.cells #[.bool b1, .int .i64 f1, .int .i64 l1] 91))
  have hFa := Fr.of (below_alloc w3 (.cells #[.bool b1, .int .i64 f1, .int .i64 l1] 91)) (Nat.le_of_lt hlt3)
  go_wp2_with fail
  try rw [if_neg (show ¬ c = m by omega)]
  try rw [show ((m : Int) + (k : Int)).toNat - m = k by omega]
  refine (ihb _ (c - m) n1 _ (by omega) hTb3 (by omega) hP4).mono ?_
  rintro e w5 ⟨b2, f2, l2, n2, rfl, hP5, hF5, hn2⟩
  have hs5 := hF5.1.size
  simp at hs5
  have hlt5 := hP5.lt
  have hR5 := (hF5.2 _ _ _ hR3 (by decide) (by omega)).alloc (.cells #[.bool b2, .int .i64 f2, .int .i64 l2] 91)
  have hA5 := (hF5.2 _ _ _ hA3 (by decide) (by omega)).alloc (.cells #[.bool b2, .int .i64 f2, .int .i64 l2] 91)
  have hP6 := hP5.below (below_alloc w5 (.cells #[.bool b2, .int .i64 f2, .int .i64 l2] 91))
  have hB5 := Blk.new w5 91 #[.bool b2, .int .i64 f2, .int .i64 l2]
  have hFb := Fr.of (below_alloc w5 (.cells #[.bool b2, .int .i64 f2, .int .i64 l2] 91)) (Nat.le_of_lt hlt5)
  have hF : Fr gp w (w5.alloc (.cells #[.bool b2, .int .i64 f2, .int .i64 l2] 91)) := ((((hb0.trans hF1).trans hF3).trans hFa).trans hF5).trans hFb
  have hnn : n2 ≤ n + cntL a.flat + cntL b.flat := by omega
  have l5b : w.heap.size < w5.heap.size := (hF5.2 _ _ _ hR3 (by decide) (by omega)).lt
  have q5b : w3.heap.size < w5.heap.size := (hF5.2 _ _ _ hA3 (by decide) (by omega)).lt
  have a0' := (hF5.2 _ _ _ hA3 (by decide) (by omega)).cell 0; have a1' := (hF5.2 _ _ _ hA3 (by decide) (by omega)).cell 1; have a2' := (hF5.2 _ _ _ hA3 (by decide) (by omega)).cell 2
  have r0' := (hF5.2 _ _ _ hR3 (by decide) (by omega)).cell 0; have r1' := (hF5.2 _ _ _ hR3 (by decide) (by omega)).cell 1; have r2' := (hF5.2 _ _ _ hR3 (by decide) (by omega)).cell 2
  have z0' := (hF5.2 _ _ _ hR3 (by decide) (by omega)).frozen 0; have z1' := (hF5.2 _ _ _ hR3 (by decide) (by omega)).frozen 1; have z2' := (hF5.2 _ _ _ hR3 (by decide) (by omega)).frozen 2
  simp at a0' a1' a2' r0' r1' r2'
  go_wp2_with fail
  refine (l10Link_any gp n2 l1 f2 _ hP6 (by omega)).mono ?_
  rintro e w7 ⟨rfl, hP7, hF7⟩
  have hs7 := hF7.1.size
  simp at hs7
  have hR7 := hF7.2 _ _ _ hR5 (by decide) (by omega)
  have hA7 := hF7.2 _ _ _ hA5 (by decide) (by omega)
  have hB7 := hF7.2 _ _ _ hB5 (by decide) (by omega)
  have hlt7 := hP7.lt
  have hF8 := hF.trans hF7
  have a0 := hA7.cell 0; have a1 := hA7.cell 1; have a2 := hA7.cell 2
  have d0 := hB7.cell 0; have d1 := hB7.cell 1; have d2 := hB7.cell 2
  have r0 := hR7.cell 0; have r1 := hR7.cell 1; have r2 := hR7.cell 2
  have z0 := hR7.frozen 0; have z1 := hR7.frozen 1; have z2 := hR7.frozen 2
  have l7 := hR7.lt; have l7a := hA7.lt; have l7b := hB7.lt
  simp at a0 a1 a2 r0 r1 r2 d0 d1 d2
  cases b1 with
  | false =>
    cases b2 with
    | false =>
      have T := (hR7.set3 (x' := .bool false) (y' := .int .i64 f1) (z' := .int .i64 l2)).alloc (.cells #[.bool false, .int .i64 f1, .int .i64 l2] 91)
      have t0 := T.cell 0; have t1 := T.cell 1; have t2 := T.cell 2
      simp at t0 t1 t2
      go_wp2_with fail
      refine bodyPost_ret (v := .agg #[.bool false, .int .i64 f1, .int .i64 l2]) (by simp [results, Tryz.results82, go_sem, t0, t1, t2]) rfl ?_
      have hp8 := (hP7).part3 (x := .bool false) (y := .int .i64 f1) (z := .int .i64 l2) hR7
      exact ⟨_, _, _, n2, rfl, hp8.below (below_alloc _ _), ((hF8).part3 (Nat.le_refl _) hlt).trans (Fr.of (below_alloc _ _) (Nat.le_of_lt hp8.lt)), by rw [hC.out]; omega⟩
    | true =>
      have T := (hR7.set3 (x' := .bool false) (y' := .int .i64 f1) (z' := .int .i64 (bits BinOp.or IntKind.i64 l1 l2))).alloc (.cells #[.bool false, .int .i64 f1, .int .i64 (bits BinOp.or IntKind.i64 l1 l2)] 91)
      have t0 := T.cell 0; have t1 := T.cell 1; have t2 := T.cell 2
      simp at t0 t1 t2
      go_wp2_with fail
      refine bodyPost_ret (v := .agg #[.bool false, .int .i64 f1, .int .i64 (bits BinOp.or IntKind.i64 l1 l2)]) (by simp [results, Tryz.results82, go_sem, t0, t1, t2]) rfl ?_
      have hp8 := (hP7).part3 (x := .bool false) (y := .int .i64 f1) (z := .int .i64 (bits BinOp.or IntKind.i64 l1 l2)) hR7
      exact ⟨_, _, _, n2, rfl, hp8.below (below_alloc _ _), ((hF8).part3 (Nat.le_refl _) hlt).trans (Fr.of (below_alloc _ _) (Nat.le_of_lt hp8.lt)), by rw [hC.out]; omega⟩
  | true =>
    cases b2 with
    | false =>
      have T := (hR7.set3 (x' := .bool false) (y' := .int .i64 (bits BinOp.or IntKind.i64 f1 f2)) (z' := .int .i64 l2)).alloc (.cells #[.bool false, .int .i64 (bits BinOp.or IntKind.i64 f1 f2), .int .i64 l2] 91)
      have t0 := T.cell 0; have t1 := T.cell 1; have t2 := T.cell 2
      simp at t0 t1 t2
      go_wp2_with fail
      refine bodyPost_ret (v := .agg #[.bool false, .int .i64 (bits BinOp.or IntKind.i64 f1 f2), .int .i64 l2]) (by simp [results, Tryz.results82, go_sem, t0, t1, t2]) rfl ?_
      have hp8 := (hP7).part3 (x := .bool false) (y := .int .i64 (bits BinOp.or IntKind.i64 f1 f2)) (z := .int .i64 l2) hR7
      exact ⟨_, _, _, n2, rfl, hp8.below (below_alloc _ _), ((hF8).part3 (Nat.le_refl _) hlt).trans (Fr.of (below_alloc _ _) (Nat.le_of_lt hp8.lt)), by rw [hC.out]; omega⟩
    | true =>
      have T := (hR7.set3 (x' := .bool true) (y' := .int .i64 (bits BinOp.or IntKind.i64 f1 f2)) (z' := .int .i64 (bits BinOp.or IntKind.i64 l1 l2))).alloc (.cells #[.bool true, .int .i64 (bits BinOp.or IntKind.i64 f1 f2), .int .i64 (bits BinOp.or IntKind.i64 l1 l2)] 91)
      have t0 := T.cell 0; have t1 := T.cell 1; have t2 := T.cell 2
      simp at t0 t1 t2
      go_wp2_with fail
      refine bodyPost_ret (v := .agg #[.bool true, .int .i64 (bits BinOp.or IntKind.i64 f1 f2), .int .i64 (bits BinOp.or IntKind.i64 l1 l2)]) (by simp [results, Tryz.results82, go_sem, t0, t1, t2]) rfl ?_
      have hp8 := (hP7).part3 (x := .bool true) (y := .int .i64 (bits BinOp.or IntKind.i64 f1 f2)) (z := .int .i64 (bits BinOp.or IntKind.i64 l1 l2)) hR7
      exact ⟨_, _, _, n2, rfl, hp8.below (below_alloc _ _), ((hF8).part3 (Nat.le_refl _) hlt).trans (Fr.of (below_alloc _ _) (Nat.le_of_lt hp8.lt)), by rw [hC.out]; omega⟩

theorem l10Build_any (gp : Nat) (p : Nat → Prop) (hp : ∀ b, p b → b < gp) : ∀ (a : Tr) (A : Option Addr) (c n : Nat) (w : World), a.Ok → a.flat.length ≤ 40000 → n + cntL a.flat ≤ 50000 → Tks w p A a.flat → a.flat.length ≤ c → PB gp n w →
    Calls Tryz.prog 82 #[.pointer (some ⟨gp, 0, none⟩), .slice A a.flat.length c] w fun e w' => BPost gp n a w e w'
  | .lf ⟨k, l, lo, hi⟩, A, c, n, w, ha, _, hn, h, _, hP => by
    have hk := arI_zero ha
    simp only at hk
    rcases hk with rfl | rfl | rfl
    · exact bld_none gp n l lo hi A c p w h hP
    · exact bld_empty gp n l lo hi A c p w h hP
    · exact bld_letter gp n (by omega) l lo hi A c p w h hP
  | .un a ⟨k, l, lo, hi⟩, A, c, n, w, ha, hl, hn, h, hc, hP => by
    have e : (Tr.un a ⟨k, l, lo, hi⟩).flat.length = a.flat.length + 1 := by simp [Tr.flat]
    have hC : cntL (Tr.un a ⟨k, l, lo, hi⟩).flat = cntL a.flat + cntL [⟨k, l, lo, hi⟩] := cntL_app _ _
    rw [e] at hl hc ⊢
    have hk := arI_one ha.2
    simp only at hk
    have hle := cntL_le a.flat
    rcases hk with rfl | rfl
    · exact bld_star gp n a l lo hi _ rfl (by omega) A c hc p hp (fun A c n w hn h hc hP => (l10Build_any gp p hp a A c n w ha.1 (by omega) (by omega) h hc hP)) w h hP (by omega)
    · exact bld_seven gp n a l lo hi _ rfl (by omega) A c p w h hP
  | .bi a b ⟨k, l, lo, hi⟩, A, c, n, w, ha, hl, hn, h, hc, hP => by
    have e : (Tr.bi a b ⟨k, l, lo, hi⟩).flat.length = a.flat.length + b.flat.length + 1 := by simp [Tr.flat]; omega
    have hC : cntL (Tr.bi a b ⟨k, l, lo, hi⟩).flat = cntL a.flat + cntL b.flat + cntL [⟨k, l, lo, hi⟩] := by
      show cntL (a.flat ++ b.flat ++ _) = _
      rw [cntL_app, cntL_app]
    rw [e] at hl hc ⊢
    have hk := arI_two ha.2.2
    simp only at hk
    rcases hk with rfl | rfl
    · exact bld_concat gp n a b ha.2.1 l lo hi _ _ rfl rfl (by omega) A c hc p hp (fun A c n w hn h hc hP => (l10Build_any gp p hp a A c n w ha.1 (by omega) (by omega) h hc hP)) (fun A c n w hn h hc hP => (l10Build_any gp p hp b A c n w ha.2.1 (by omega) (by omega) h hc hP)) w h hP (by omega)
    · exact bld_union gp n a b ha.2.1 l lo hi _ _ rfl rfl (by omega) A c hc p hp (fun A c n w hn h hc hP => (l10Build_any gp p hp a A c n w ha.1 (by omega) (by omega) h hc hP)) (fun A c n w hn h hc hP => (l10Build_any gp p hp b A c n w ha.2.1 (by omega) (by omega) h hc hP)) w h hP (by omega)
end Go.Proofs.YtmnhpbbapkcdjaaGreat

/- Walk: BuildPositions. -/
namespace Go.Proofs.YtmnhpbbapkcdjaaGreat
open Go.RowKit

/-- positions whose slices lie in blocks of their own -/
def PosO (w : World) (base : Nat) (v : Value) (a : Pos) : Prop :=
  ∃ va vf, v = .agg #[va, .int .i64 a.first, .int .i64 a.last, vf, .bool a.nullable] ∧ w.ownsRow base 3 1 va a.n (ints a.letters) ∧ w.ownsRow base 3 1 vf a.follow.length (ints a.follow) ∧ (va.ownBlock = none ∨ va.ownBlock ≠ vf.ownBlock)
theorem PosO.posV {w : World} {base : Nat} {v : Value} {a : Pos} (h : PosO w base v a) : PosV w (base ≤ ·) v a := by
  obtain ⟨va, vf, rfl, h1, h2, _⟩ := h
  obtain ⟨A1, c1, rfl⟩ := own_form h1
  obtain ⟨A2, c2, rfl⟩ := own_form h2
  exact ⟨A1, _, c1, A2, _, c2, rfl, Sl.of_own h1 (fun b hb => own_ge h1 b hb), Sl.of_own h2 (fun b hb => own_ge h2 b hb)⟩
theorem PosO.none_ (w : World) (base : Nat) : PosO w base (.agg #[.slice none 0 0, .int .i64 0, .int .i64 0, .slice none 0 0, .bool false]) ⟨[], 0, 0, [], false⟩ :=
  ⟨_, _, rfl, World.ownsRow_nil _ _ _ _, World.ownsRow_nil _ _ _ _, .inl rfl⟩
theorem PosO.mono {w : World} {base base' : Nat} {v : Value} {a : Pos} (h : PosO w base v a) (hb : base' ≤ base) : PosO w base' v a := by
  obtain ⟨va, vf, rfl, h1, h2, h3⟩ := h
  exact ⟨va, vf, rfl, own_mono h1 hb, own_mono h2 hb, h3⟩
theorem PosO.below {w w' : World} {base : Nat} {v : Value} {a : Pos} (h : PosO w base v a) (hb : Below w.heap.size w w') : PosO w' base v a := by
  obtain ⟨va, vf, rfl, h1, h2, h3⟩ := h
  exact ⟨va, vf, rfl, own_below h1 hb, own_below h2 hb, h3⟩
def PosRes (w : World) (e : Ending) (w' : World) : Prop :=
  ∃ v ok a, e = .returned (.tuple #[v, .bool ok]) ∧ PosO w' w.heap.size v a ∧ Below w.heap.size w w' ∧ a.follow.length = a.n ∧ a.n ≤ 20
theorem cntL_take {L : List Tk} {k : Nat} (h : k < L.length) : cntL (L.take (k + 1)) = cntL (L.take k) + (if (L[k]?.getD tk0).k = 3 then 1 else 0) := by
  rw [List.take_succ_eq_append_getElem h, cntL_app, List.getElem?_eq_getElem h]
  simp [cntL]
theorem Blk.set5r {w : World} {g : Nat} {t : TypeId} {u0 u1 u2 u3 u4 v0 v1 v2 v3 v4 : Value} (h : Blk w g t #[u0, u1, u2, u3, u4]) :
    Blk (((((w.setCell ⟨g, 0, none⟩ v0).setCell ⟨g, 1, none⟩ v1).setCell ⟨g, 2, none⟩ v2).setCell ⟨g, 3, none⟩ v3).setCell ⟨g, 4, none⟩ v4) g t #[v0, v1, v2, v3, v4] := h.set5

theorem own_set5 {w : World} {base g size n : Nat} {e t : TypeId} {v v0 v1 v2 v3 v4 : Value} {xs : List Value} {cs : Array Value} (h : w.ownsRow base e size v n xs) (hB : Blk w g t cs) (hne : e ≠ t) :
    (((((w.setCell ⟨g, 0, none⟩ v0).setCell ⟨g, 1, none⟩ v1).setCell ⟨g, 2, none⟩ v2).setCell ⟨g, 3, none⟩ v3).setCell ⟨g, 4, none⟩ v4).ownsRow base e size v n xs :=
  own_set (own_set (own_set (own_set (own_set h hB hne 0 v0) (hB.set_ 0 v0) hne 1 v1) ((hB.set_ 0 v0).set_ 1 v1) hne 2 v2) (((hB.set_ 0 v0).set_ 1 v1).set_ 2 v2) hne 3 v3) ((((hB.set_ 0 v0).set_ 1 v1).set_ 2 v2).set_ 3 v3) hne 4 v4
theorem own_set3 {w : World} {base g size n i j k : Nat} {e t : TypeId} {v v0 v1 v2 : Value} {xs : List Value} {cs : Array Value} (h : w.ownsRow base e size v n xs) (hB : Blk w g t cs) (hne : e ≠ t) :
    (((w.setCell ⟨g, i, none⟩ v0).setCell ⟨g, j, none⟩ v1).setCell ⟨g, k, none⟩ v2).ownsRow base e size v n xs :=
  own_set (own_set (own_set h hB hne i v0) (hB.set_ i v0) hne j v1) ((hB.set_ i v0).set_ j v1) hne k v2
theorem below_set5 {B g : Nat} {w w' : World} {v0 v1 v2 v3 v4 : Value} (h : Below B w w') (hg : B ≤ g) : Below B w (((((w'.setCell ⟨g, 0, none⟩ v0).setCell ⟨g, 1, none⟩ v1).setCell ⟨g, 2, none⟩ v2).setCell ⟨g, 3, none⟩ v3).setCell ⟨g, 4, none⟩ v4) :=
  below_set (below_set (below_set (below_set (below_set h hg _ _) hg _ _) hg _ _) hg _ _) hg _ _
set_option maxRecDepth 100000 in
set_option maxHeartbeats 2000000 in
theorem BuildPositions_any (L : List Tk) (v : Value) (p : Nat → Prop) (w : World) (h : ExC w p v L) :
    Calls Tryz.prog 51 #[v] w fun e w' => PosRes w e w' := by
  obtain ⟨A, c, rfl, hT, hc⟩ := h
  have hT0 := (hT.al (.cells #[.slice A L.length c] 66)).al (.cells #[.slice none 0 0, .int .i64 0, .int .i64 0, .slice none 0 0, .bool false] 26)
  have hR := blk2 w (.cells #[.slice A L.length c] 66) 26 #[.slice none 0 0, .int .i64 0, .int .i64 0, .slice none 0 0, .bool false]
  obtain ⟨W0, hW0⟩ : ∃ W0, W0 = (w.alloc (.cells #[.slice A L.length c] 66)).alloc (.cells #[.slice none 0 0, .int .i64 0, .int .i64 0, .slice none 0 0, .bool false] 26) := ⟨_, rfl⟩
  have hb0 : Below w.heap.size w W0 := by rw [hW0]; exact below_alloc2 w _ _
  have hs0 : w.heap.size + 1 + 1 = W0.heap.size := by rw [hW0]; simp
  go_enter Tryz.func51, Tryz.ntmps51
  go_wp2_with fail
  rw [← hW0] at hT0 hR ⊢
  clear hW0
  refine (ExpandExpr_any L _ p _ ⟨A, c, rfl, hT0, hc⟩).mono ?_
  rintro e w1 ⟨v1, ok, M, rfl, hO, hb1, hok⟩
  have HOK := Lib.hid hok
  clear hok
  obtain ⟨A1, c1, rfl, ho⟩ := hO.form
  have hs1 := hb1.size
  have hR1 := hR.below hb1 hR.lt
  have l1 := hR1.lt
  have hX := Blk.new w1 66 #[.slice A1 M.length c1]
  have hb01 : Below w.heap.size w w1 := hb0.trans (hb1.mono (by omega))
  have r0 := hR1.cell 0; have r1 := hR1.cell 1; have r2 := hR1.cell 2; have r3 := hR1.cell 3; have r4 := hR1.cell 4
  have z0 := hR1.frozen 0; have z1 := hR1.frozen 1; have z2 := hR1.frozen 2; have z3 := hR1.frozen 3; have z4 := hR1.frozen 4
  simp at r0 r1 r2 r3 r4
  have hm1 : M.length ≤ 9223372036854775807 := by have := (Sl.of_own (p := fun _ => True) ho (fun _ _ => trivial)).2.1; unfold maxLen at this; omega
  cases ok with
  | false =>
    have T := ((hR1.set5r (v0 := .slice none 0 0) (v1 := .int .i64 0) (v2 := .int .i64 0) (v3 := .slice none 0 0) (v4 := .bool false))).alloc (.cells #[.slice A1 M.length c1] 66)
    have t0 := T.cell 0; have t1 := T.cell 1; have t2 := T.cell 2; have t3 := T.cell 3; have t4 := T.cell 4
    simp at t0 t1 t2 t3 t4
    go_wp2_with fail
    refine bodyPost_ret (v := .tuple #[.agg #[.slice none 0 0, .int .i64 0, .int .i64 0, .slice none 0 0, .bool false], .bool false]) (by simp [results, Tryz.results51, go_sem, t0, t1, t2, t3, t4]) rfl ?_
    refine ⟨_, _, _, rfl, PosO.none_ _ _, ?_, rfl, by decide⟩
    exact (below_set (below_set (below_set (below_set (below_set hb01 (by omega) _ _) (by omega) _ _) (by omega) _ _) (by omega) _ _) (by omega) _ _).trans ((below_alloc _ _).mono (by simp; omega))
  | true =>
    obtain ⟨hM4, a, ha, hMa⟩ := HOK.out rfl
    have HA := Lib.hid (And.intro ha hMa)
    clear HOK ha hMa
    have hX1 := hX
    have ho1 := own_below ho (below_alloc w1 (.cells #[.slice A1 M.length c1] 66))
    have hTM : Tks (w1.alloc (.cells #[.slice A1 M.length c1] 66)) (fun b => W0.heap.size ≤ b ∧ b < w1.heap.size) A1 M := by
      refine Sl.of_own ho1 (fun b hb => ⟨own_ge ho1 b hb, ?_⟩)
      exact (ho.lt b hb).2
    have hcap := own_cap ho
    have hR2 := hR1.alloc (.cells #[.slice A1 M.length c1] 66)
    obtain ⟨W2, hW2⟩ : ∃ W2, W2 = w1.alloc (.cells #[.slice A1 M.length c1] 66) := ⟨_, rfl⟩
    have hb12 : Below w.heap.size w W2 := by rw [hW2]; exact hb01.trans ((below_alloc _ _).mono (by omega))
    have hs2 : w1.heap.size + 1 = W2.heap.size := by rw [hW2]; simp
    go_wp2_with fail
    rw [← hW2] at hX hTM hR2 ⊢
    clear hW2 ho1 hX1 ho hO
    have x0 := hX.cell 0
    simp at x0
    have hltX := hX.lt
    go_loop [6, 7] (fun nv iv => ∃ k : Nat, k ≤ M.length ∧ iv = .int .i64 k ∧ nv = .int .i64 (cntL (M.take k))) (fun _ iv => M.length - (intOf iv).toNat)
    case atStart => exact ⟨0, by omega, rfl, rfl⟩
    case round =>
      obtain ⟨k, hk, rfl, rfl⟩ := hrel
      have hcl := cntL_le (M.take k)
      have hcl2 : cntL (M.take k) ≤ 400 := by simp at hcl; omega
      clear hcl
      by_cases hlt : k < M.length
      · have hki : (k : Int) < (M.length : Int) := by omega
        obtain ⟨b, off, rfl, _, _, c0', c1', c2', c3'⟩ := hTM.at_ hlt
        have HS := Lib.hid (cntL_take hlt)
        generalize (M[k]?.getD tk0).k = kk at *
        by_cases h3 : kk = 3
        · subst h3
          have HE : Hid (cntL (M.take (k + 1)) = cntL (M.take k) + 1) := Lib.hid (by rw [HS.out]; simp)
          go_wp2
          go_round
          case rel => exact ⟨k + 1, by omega, by go_num, by rw [HE.out]; go_num⟩
          case measure => simp [intOf]; omega
        · have HE : Hid (cntL (M.take (k + 1)) = cntL (M.take k)) := Lib.hid (by rw [HS.out]; simp [h3])
          go_wp2
          go_round
          case rel => exact ⟨k + 1, by omega, by go_num, by rw [HE.out]⟩
          case measure => simp [intOf]; omega
      · obtain rfl : k = M.length := by omega
        rw [List.take_length] at *
        have s0 := hR2.cell 0; have s1 := hR2.cell 1; have s2 := hR2.cell 2; have s3 := hR2.cell 3; have s4 := hR2.cell 4
        have y0 := hR2.frozen 0; have y1 := hR2.frozen 1; have y2 := hR2.frozen 2; have y3 := hR2.frozen 3; have y4 := hR2.frozen 4
        have l2 := hR2.lt
        simp at s0 s1 s2 s3 s4
        by_cases h20 : 20 < cntL M
        · have h20i : (20 : Int) < (cntL M : Int) := by omega
          have T := (hR2.set5r (v0 := .slice none 0 0) (v1 := .int .i64 0) (v2 := .int .i64 0) (v3 := .slice none 0 0) (v4 := .bool false))
          have t0 := T.cell 0; have t1 := T.cell 1; have t2 := T.cell 2; have t3 := T.cell 3; have t4 := T.cell 4
          simp at t0 t1 t2 t3 t4
          go_wp2_with fail
          refine bodyPost_ret (v := .tuple #[.agg #[.slice none 0 0, .int .i64 0, .int .i64 0, .slice none 0 0, .bool false], .bool false]) (by simp [results, Tryz.results51, go_sem, t0, t1, t2, t3, t4]) rfl ?_
          refine ⟨_, _, _, rfl, PosO.none_ _ _, ?_, rfl, by decide⟩
          exact below_set (below_set (below_set (below_set (below_set hb12 (by omega) _ _) (by omega) _ _) (by omega) _ _) (by omega) _ _) (by omega) _ _
        · have h20i : ¬ (20 : Int) < (cntL M : Int) := by omega
          obtain ⟨ha, hMa⟩ := HA.out
          have hPB : PB W2.heap.size 0 (W2.alloc (.cells #[.slice none 0 0, .int .i64 0, .int .i64 0, .slice none 0 0, .bool false] 26)) := ⟨_, _, [], [], _, _, _, Blk.new _ _ _, World.ownsRow_nil _ _ _ _, World.ownsRow_nil _ _ _ _, .inl rfl⟩
          have hR3 := hR2.alloc (.cells #[.slice none 0 0, .int .i64 0, .int .i64 0, .slice none 0 0, .bool false] 26)
          have hT3 := (hTM.al (.cells #[.slice none 0 0, .int .i64 0, .int .i64 0, .slice none 0 0, .bool false] 26)).weak (q := (· < W2.heap.size)) (fun b hb _ => by have := hb.2; show b < _; omega)
          have hcN : cntL a.flat ≤ 20 := by rw [← hMa]; omega
          have hal : a.flat.length ≤ 400 := by rw [← hMa]; exact hM4
          clear HA
          subst hMa
          go_wp2_with fail
          refine (l10Build_any W2.heap.size (· < W2.heap.size) (fun _ h => h) a A1 c1 0 _ ha (by omega) (by omega) hT3 hcap hPB).mono ?_
          rintro e w5 ⟨nb, ff, fl, n5, rfl, hP5, hF5, hn5⟩
          obtain ⟨va, vf, xs, ys, f5, l5, b5, hB5, hva, hvf, hap⟩ := hP5
          have hR5 := hF5.2 _ _ _ hR3 (by decide) (by have := hR2.lt; omega)
          have l5' := hR5.lt
          have lB := hB5.lt
          obtain ⟨A5, c5, rfl⟩ := own_form hva
          obtain ⟨A6, c6, rfl⟩ := own_form hvf
          have S := (((hB5.set_ 1 (.int .i64 ff)).set_ 2 (.int .i64 fl)).set_ 4 (.bool nb))
          have o0 := hB5.cell 0; have o1 := hB5.cell 1; have o2 := hB5.cell 2; have o3 := hB5.cell 3; have o4 := hB5.cell 4
          have y1 := hB5.frozen 1; have y2 := hB5.frozen 2; have y4 := hB5.frozen 4
          have t0 := hR5.cell 0; have t1 := hR5.cell 1; have t2 := hR5.cell 2; have t3 := hR5.cell 3; have t4 := hR5.cell 4
          have z0 := hR5.frozen 0; have z1 := hR5.frozen 1; have z2 := hR5.frozen 2; have z3 := hR5.frozen 3; have z4 := hR5.frozen 4
          simp at o0 o1 o2 o3 o4 t0 t1 t2 t3 t4
          have hne := hR2.lt
          clear hTM hT3 hX x0 hcap hPB hR3 hT0 hT hR hR1 r0 r1 r2 r3 r4 s0 s1 s2 s3 s4 hR2
          have hRa := ((hR5.set_ne (g' := W2.heap.size) (i := 1) (by omega) (.int .i64 ff)).set_ne (g' := W2.heap.size) (i := 2) (by omega) (.int .i64 fl)).set_ne (g' := W2.heap.size) (i := 4) (by omega) (.bool nb)
          have T := (hRa.set5r (v0 := .slice A5 n5 c5) (v1 := .int .i64 ff) (v2 := .int .i64 fl) (v3 := .slice A6 n5 c6) (v4 := .bool nb)).alloc (.cells #[.bool nb, .int .i64 ff, .int .i64 fl] 91)
          have t0 := T.cell 0; have t1 := T.cell 1; have t2 := T.cell 2; have t3 := T.cell 3; have t4 := T.cell 4
          simp at t0 t1 t2 t3 t4
          go_wp2_with fail
          refine bodyPost_ret (v := .tuple #[.agg #[.slice A5 n5 c5, .int .i64 ff, .int .i64 fl, .slice A6 n5 c6, .bool nb], .bool true]) (by simp [results, Tryz.results51, go_sem, t0, t1, t2, t3, t4]) rfl ?_
          have ux := own_below (own_set5 (v0 := .slice A5 n5 c5) (v1 := .int .i64 ff) (v2 := .int .i64 fl) (v3 := .slice A6 n5 c6) (v4 := .bool nb) (own_set3 (i := 1) (j := 2) (k := 4) (v0 := .int .i64 ff) (v1 := .int .i64 fl) (v2 := .bool nb) hva hB5 (by decide)) hRa (by decide)) (below_alloc _ (.cells #[.bool nb, .int .i64 ff, .int .i64 fl] 91))
          have uf := own_below (own_set5 (v0 := .slice A5 n5 c5) (v1 := .int .i64 ff) (v2 := .int .i64 fl) (v3 := .slice A6 n5 c6) (v4 := .bool nb) (own_set3 (i := 1) (j := 2) (k := 4) (v0 := .int .i64 ff) (v1 := .int .i64 fl) (v2 := .bool nb) hvf hB5 (by decide)) hRa (by decide)) (below_alloc _ (.cells #[.bool nb, .int .i64 ff, .int .i64 fl] 91))
          have hx5 : xs.length = n5 := by have := hva.1; simpa [ints] using this
          have hy5 : ys.length = n5 := by have := hvf.1; simpa [ints] using this
          have hw5 : w.heap.size ≤ W2.heap.size := hb12.size
          have hbz : Below w.heap.size w w5 := (hb12.trans ((below_alloc W2 (.cells #[.slice none 0 0, .int .i64 0, .int .i64 0, .slice none 0 0, .bool false] 26)).mono hw5)).trans (hF5.1.mono hw5)
          refine ⟨_, _, ⟨xs, ff, fl, ys, nb⟩, rfl, ⟨_, _, rfl, ?_, ?_, hap⟩, ?_, ?_, ?_⟩
          · show World.ownsRow _ _ _ _ _ xs.length _
            rw [hx5]; exact own_mono ux hw5
          · show World.ownsRow _ _ _ _ _ ys.length _
            rw [hy5]; exact own_mono uf hw5
          · have hbz3 := below_set (below_set (below_set hbz hw5 1 (.int .i64 ff)) hw5 2 (.int .i64 fl)) hw5 4 (.bool nb)
            have hbz5 := below_set5 (v0 := .slice A5 n5 c5) (v1 := .int .i64 ff) (v2 := .int .i64 fl) (v3 := .slice A6 n5 c6) (v4 := .bool nb) hbz3 (g := w.heap.size + 1) (by omega)
            exact hbz5.trans ((below_alloc _ _).mono (by have := hbz.size; simp; omega))
          · exact hy5.trans hx5.symm
          · show xs.length ≤ 20
            omega
end Go.Proofs.YtmnhpbbapkcdjaaGreat

/- Walks: l1Pick, FormatLetter, ParseLetter, l8Token, l8Read (some answer, no panic). -/
namespace Go.Proofs.YtmnhpbbapkcdjaaGreat
open Go.RowKit

def strs' (L : List ByteArray) : List Value := L.map Value.string
theorem Sl.str_at {w : World} {p : Nat → Prop} {A : Option Addr} {n : Nat} {L : List ByteArray} {k : Nat} (h : Sl w p 1 A n (strs' L)) (hk : k < n) :
    ∃ b off s, A = some ⟨b, off, none⟩ ∧ p b ∧ b < w.heap.size ∧ w.cell? ⟨b, off + k, none⟩ = some (.string s) ∧ s ∈ L := by
  obtain ⟨b, off, u, hA, hp, hb, hu, hc⟩ := h.cell_at hk
  obtain ⟨s, hs, rfl⟩ := List.mem_map.1 (List.mem_of_getElem? hu)
  exact ⟨b, off, s, hA, hp, hb, hc, hs⟩
theorem l1Pick_any (g n : Nat) (A : Option Addr) (c : Nat) (L : List ByteArray) (p q : Nat → Prop) (w : World) (h : Cur w p g) (hp : ∀ b, p b → b ≠ g) (hx : Sl w q 1 A n (strs' L)) (hq : ∀ b, q b → b ≠ g) (h1 : 0 < n) (h2 : n ≤ 256) :
    Calls Tryz.prog 98 #[.pointer (some ⟨g, 0, none⟩), .slice A n c] w fun e w' => ∃ s, e = .returned (.string s) ∧ s ∈ L ∧ Drawn w w' p g := by
  go_enter Tryz.func98, Tryz.ntmps98
  go_wp2_with fail
  refine (l1Below_any g n p w h hp h1 h2).mono ?_
  rintro e w1 ⟨r, rfl, hr, hd⟩
  have hx1 : Sl w1 q 1 A n (strs' L) := hx.keep hd.1.size (fun b hb hlt => hd.1.block b hlt (fun e => hq b hb (by injection e)))
  obtain ⟨b, off, s, rfl, _, _, hc, hm⟩ := hx1.str_at hr
  have hri : (r : Int) < (n : Int) := by omega
  go_wp2
  go_ret
  exact ⟨s, rfl, hm, hd⟩
def SomeStr (w : World) (e : Ending) (w' : World) : Prop := ∃ s : ByteArray, e = .returned (.string s) ∧ Below w.heap.size w w'
set_option maxRecDepth 100000 in
set_option maxHeartbeats 1000000 in
theorem FormatLetter_some (x : Int) (w : World) (hx : isL x = true) : Calls Tryz.prog 119 #[.int .i64 x] w fun e w' => SomeStr w e w' := by
  have hr := isL_iff.1 hx
  obtain rfl | rfl | rfl | rfl | rfl | rfl | rfl | rfl | rfl : x = 0 ∨ x = 1 ∨ x = 2 ∨ x = 3 ∨ x = 4 ∨ x = 5 ∨ x = 6 ∨ x = 7 ∨ x = 8 := by omega
  all_goals
    go_enter Tryz.func119, Tryz.ntmps119
    go_wp2_with (go_at_call 34; refine (l2Letter_any _ _).mono ?_; rintro e w' ⟨rfl, rfl⟩)
    go_ret
    exact ⟨_, rfl, below_alloc _ _⟩
set_option maxRecDepth 100000 in
theorem l8Token_some (k : Int) (w : World) (hk : k = 1 ∨ k = 2 ∨ k = 4 ∨ k = 5 ∨ k = 6) : Calls Tryz.prog 117 #[.agg #[.int .i64 k, .int .i64 0, .int .i64 0, .int .i64 0]] w fun e w' => SomeStr w e w' := by
  rcases hk with rfl | rfl | rfl | rfl | rfl
  all_goals
    go_enter Tryz.func117, Tryz.ntmps117
    go_wp2
    go_ret
    exact ⟨_, rfl, below_alloc _ _⟩
def PLRes (w : World) (e : Ending) (w' : World) : Prop := ∃ (n : Int) (ok : Bool), e = .returned (.tuple #[.int .i64 n, .bool ok]) ∧ Below w.heap.size w w'
set_option maxRecDepth 100000 in
theorem ParseLetter_some (s : ByteArray) (w : World) : Calls Tryz.prog 118 #[.string s] w fun e w' => PLRes w e w' := by
  go_enter Tryz.func118, Tryz.ntmps118
  go_wp2_with fail
  go_loopw [4] (fun nv wr => ∃ k : Nat, k ≤ 9 ∧ nv = .int .i64 k ∧ Below w.heap.size w wr) (fun nv _ => 9 - (intOf nv).toNat)
  case atStart => exact ⟨0, by omega, rfl, Below.refl _ _⟩
  case round =>
    obtain ⟨k, hk, rfl, hb⟩ := hrel
    by_cases hlt : k < 9
    · have hki : (k : Int) < 9 := by omega
      go_wp2_with fail
      refine (FormatLetter_some k _ (isL_iff.2 (by omega))).mono ?_
      rintro e w1 ⟨t, rfl, hb1⟩
      have hb2 := hb.trans (hb1.mono hb.size)
      go_wp2_with fail
      · go_ret2
        exact ⟨_, _, rfl, hb2⟩
      · go_roundw
        case rel => exact ⟨k + 1, by omega, by go_num, hb2⟩
        case measure => simp [intOf]; omega
    · have hki : ¬ (k : Int) < 9 := by omega
      go_wp2
      go_ret2
      exact ⟨_, _, rfl, hb⟩

end Go.Proofs.YtmnhpbbapkcdjaaGreat
