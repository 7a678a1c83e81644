/- Walks: l10Expand. No condition. -/
import Derived.Test.YtmnhpbbapkcdjaaGreatA09

/- Walks: l10Expand. -/
namespace Go.Proofs.YtmnhpbbapkcdjaaGreat
open Go.RowKit

def expT : Tr → Tr
  | .lf t => .lf t
  | .un a t => if t.k = 7 then timesT (expT a) t.lo.toNat t.hi.toNat else .un (expT a) t
  | .bi a b t => .bi (expT a) (expT b) t
theorem arI_seven {t : Tk} (h : arI t = 1) (hk : t.k = 7) : 0 ≤ t.lo ∧ t.lo ≤ 3 ∧ 1 ≤ t.hi ∧ t.hi ≤ 3 := by
  unfold arI at h
  rw [if_neg (by omega), if_neg (by omega), if_neg (by omega), if_neg (by omega), if_pos hk] at h
  split at h
  · rename_i hh
    have h1 := inB_iff.1 hh.2.1
    have h2 := inB_iff.1 hh.2.2
    omega
  · omega
theorem arI_zero {t : Tk} (h : arI t = 0) : t.k = 1 ∨ t.k = 2 ∨ t.k = 3 := by
  unfold arI at h
  split at h
  · omega
  · split at h
    · omega
    · repeat' split at h
      all_goals omega
theorem arI_one {t : Tk} (h : arI t = 1) : t.k = 6 ∨ t.k = 7 := by
  unfold arI at h
  repeat' split at h
  all_goals omega
theorem arI_two {t : Tk} (h : arI t = 2) : t.k = 4 ∨ t.k = 5 := by
  unfold arI at h
  repeat' split at h
  all_goals omega
theorem expT_len : ∀ a : Tr, a.Ok → (expT a).flat.length + 5 ≤ 6 * 3 ^ (a.flat.length - 1)
  | .lf t, _ => by simp [expT, Tr.flat]
  | .un a t, h => by
    have ih := expT_len a h.1
    have hp := a.flat_pos
    have e : 3 ^ ((Tr.un a t).flat.length - 1) = 3 * 3 ^ (a.flat.length - 1) := by
      rw [show (Tr.un a t).flat.length - 1 = (a.flat.length - 1) + 1 by simp [Tr.flat]; omega, Nat.pow_succ, Nat.mul_comm]
    rw [e]
    unfold expT
    split
    · rename_i hk
      have hb := arI_seven h.2 hk
      have h1 := timesT_len (expT a) t.hi.toNat t.lo.toNat
      have h2 : t.hi.toNat * ((expT a).flat.length + 3) ≤ 3 * ((expT a).flat.length + 3) := Nat.mul_le_mul_right _ (by omega)
      omega
    · have : ((expT a).un t).flat.length = (expT a).flat.length + 1 := by simp [Tr.flat]
      omega
  | .bi a b t, h => by
    have ih := expT_len a h.1
    have ih2 := expT_len b h.2.1
    have hp := a.flat_pos
    have hq := b.flat_pos
    have e1 : 3 ^ (a.flat.length - 1) ≤ 3 ^ ((Tr.bi a b t).flat.length - 1 - 1) := Nat.pow_le_pow_right (by omega) (by simp [Tr.flat]; omega)
    have e2 : 3 ^ (b.flat.length - 1) ≤ 3 ^ ((Tr.bi a b t).flat.length - 1 - 1) := Nat.pow_le_pow_right (by omega) (by simp [Tr.flat]; omega)
    have e3 : 3 ^ ((Tr.bi a b t).flat.length - 1) = 3 * 3 ^ ((Tr.bi a b t).flat.length - 1 - 1) := by
      have h3 : 1 ≤ (Tr.bi a b t).flat.length - 1 := by simp [Tr.flat]; omega
      obtain ⟨m, hm⟩ : ∃ m, (Tr.bi a b t).flat.length - 1 = m + 1 := ⟨(Tr.bi a b t).flat.length - 1 - 1, by omega⟩
      rw [hm, Nat.pow_succ, Nat.mul_comm]; rfl
    have e4 : (expT (.bi a b t)).flat.length = (expT a).flat.length + (expT b).flat.length + 1 := by simp [expT, Tr.flat]; omega
    rw [e3, e4]
    omega
theorem expT_bound {a : Tr} (h : a.Ok) (hl : a.flat.length ≤ 23) : (expT a).flat.length ≤ 188286357654 := by
  have h1 := expT_len a h
  have h2 : 3 ^ (a.flat.length - 1) ≤ 3 ^ 22 := Nat.pow_le_pow_right (by omega) (by omega)
  have h3 : (3 : Nat) ^ 22 = 31381059609 := by decide
  omega
theorem expT_ok : ∀ {a : Tr}, a.Ok → (expT a).Ok
  | .lf t, h => h
  | .un a t, h => by
    unfold expT
    split
    · exact timesT_ok (expT_ok h.1) _ _
    · exact ⟨expT_ok h.1, h.2⟩
  | .bi a b t, h => ⟨expT_ok h.1, expT_ok h.2.1, h.2.2⟩
section
variable {w : World} {p : Nat → Prop} {A : Option Addr} {c : Nat}
theorem Tks.un_ {L : List Tk} {t : Tk} (h : Tks w p A (L ++ [t])) : Tks w p A L := by
  have := h.take_ L.length (by simp)
  rwa [List.take_left] at this
theorem Tks.right {b off : Nat} {L M : List Tk} (h : Tks w p (some ⟨b, off, none⟩) (L ++ M)) : Tks w p (some ⟨b, off + L.length * 4, none⟩) M := by
  have := h.drop_ L.length
  rwa [List.drop_left] at this
theorem Tks.left {L M : List Tk} (h : Tks w p A (L ++ M)) : Tks w p A L := by
  have := h.take_ L.length (by simp)
  rwa [List.take_left] at this
theorem Tks.last {L : List Tk} {t : Tk} (h : Tks w p A (L ++ [t])) : ∃ b off, A = some ⟨b, off, none⟩ ∧ p b ∧ b < w.heap.size ∧
    w.cell? ⟨b, off + L.length * 4, none⟩ = some (.int .i64 t.k) ∧ w.cell? ⟨b, off + L.length * 4 + 1, none⟩ = some (.int .i64 t.l) ∧
    w.cell? ⟨b, off + L.length * 4 + 2, none⟩ = some (.int .i64 t.lo) ∧ w.cell? ⟨b, off + L.length * 4 + 3, none⟩ = some (.int .i64 t.hi) := by
  have := h.at_ (k := L.length) (by simp)
  rwa [List.getElem?_append_right (by omega), Nat.sub_self] at this
end

theorem own_tok (w : World) {base : Nat} (hb : base ≤ w.heap.size) (k l lo hi : Int) : (w.alloc (.cells #[.int .i64 k, .int .i64 l, .int .i64 lo, .int .i64 hi] 89)).ownsRow base 89 4 (.slice (some ⟨w.heap.size, 0, none⟩) 1 1) 1 (tks [⟨k, l, lo, hi⟩]) := by
  have := World.ownsRow_lit (base := base) (size := 4) (e := 89) w #[.int .i64 k, .int .i64 l, .int .i64 lo, .int .i64 hi] 1 hb (by decide) rfl
  simpa [tks, Tk.cells] using this
def ExpPost (w : World) (a : Tr) (e : Ending) (w' : World) : Prop := ∃ v, e = .returned v ∧ ExO w' w.heap.size v (expT a).flat ∧ Below w.heap.size w w'
set_option maxRecDepth 100000 in
set_option maxHeartbeats 1000000 in
theorem exp_lf (t : Tk) (ht : arI t = 0) (A : Option Addr) (c : Nat) (p : Nat → Prop) (w : World) (h : Tks w p A [t]) :
    Calls Tryz.prog 94 #[.slice A 1 c] w fun e w' => ExpPost w (.lf t) e w' := by
  obtain ⟨b, off, rfl, _, _, c0, c1, c2, c3⟩ := Tks.last (L := []) h
  have hk := arI_zero ht
  have HE : Hid ((expT (.lf t)).flat = [t]) := Lib.hid rfl
  obtain ⟨k, l, lo, hi⟩ := t
  simp only at hk c0 c1 c2 c3
  simp at c0 c1 c2 c3
  have hB := ((Blk.new w 66 #[.slice none 0 0]).alloc (.cells #[.int .i64 k, .int .i64 l, .int .i64 lo, .int .i64 hi] 89)).alloc (.cells #[.int .i64 k, .int .i64 l, .int .i64 lo, .int .i64 hi] 89)
  have q0 := hB.cell 0
  simp at q0
  rcases hk with rfl | rfl | rfl
  all_goals
    go_enter Tryz.func94, Tryz.ntmps94
    go_wp2
    refine bodyPost_ret (v := .agg #[.slice (some ⟨w.heap.size + 1 + 1, 0, none⟩) 1 1]) (by simp [results, Tryz.results94, go_sem, q0]) rfl ?_
    refine ⟨_, rfl, ?_, ((below_alloc w _).trans ((below_alloc2 _ _ _).mono (by simp)))⟩
    rw [HE.out]
    exact ⟨_, rfl, by simpa using own_tok ((w.alloc (.cells #[.slice (some ⟨w.heap.size + 1 + 1, 0, none⟩) 1 1] 66)).alloc (.cells #[_, _, _, _] 89)) (base := w.heap.size) (by simp; omega) _ l lo hi⟩

set_option maxRecDepth 100000 in
set_option maxHeartbeats 1000000 in
theorem exp_six (a : Tr) (ha : a.Ok) (l lo hi : Int) (n : Nat) (hn : n = a.flat.length) (hl : n ≤ 23) (p : Nat → Prop)
    (ih : ∀ (A : Option Addr) (c : Nat) (w : World), Tks w p A a.flat → n ≤ c → Calls Tryz.prog 94 #[.slice A n c] w fun e w' => ExpPost w a e w')
    (A : Option Addr) (c : Nat) (hc : n + 1 ≤ c) (w : World) (h : Tks w p A (a.flat ++ [⟨6, l, lo, hi⟩])) :
    Calls Tryz.prog 94 #[.slice A (n + 1) c] w fun e w' => ExpPost w (.un a ⟨6, l, lo, hi⟩) e w' := by
  obtain ⟨b, off, rfl, _, _, c0, c1, c2, c3⟩ := Tks.last h
  simp only at c0 c1 c2 c3
  rw [← hn] at c0 c1 c2 c3
  have HE : Hid ((expT (.un a ⟨6, l, lo, hi⟩)).flat = (expT a).flat ++ [] ++ [⟨6, l, lo, hi⟩]) := Lib.hid (by simp [expT, Tr.flat])
  have HL := Lib.hid (expT_bound ha (by omega))
  have hT := h.un_
  have hR := (Blk.new w 66 #[.slice none 0 0]).alloc (.cells #[.int .i64 6, .int .i64 l, .int .i64 lo, .int .i64 hi] 89)
  have hB := blk2 w (.cells #[.slice none 0 0] 66) 89 #[.int .i64 6, .int .i64 l, .int .i64 lo, .int .i64 hi]
  have hT0 := (hT.al (.cells #[.slice none 0 0] 66)).al (.cells #[.int .i64 6, .int .i64 l, .int .i64 lo, .int .i64 hi] 89)
  have ihn := Lib.hid hn
  clear hn
  have hci : (n : Int) ≤ (c : Int) := by omega
  obtain ⟨W0, hW0⟩ : ∃ W0, W0 = (w.alloc (.cells #[.slice none 0 0] 66)).alloc (.cells #[.int .i64 6, .int .i64 l, .int .i64 lo, .int .i64 hi] 89) := ⟨_, rfl⟩
  have hb0 : Below w.heap.size w W0 := by rw [hW0]; exact below_alloc2 w _ _
  have hs0 : w.heap.size + 1 + 1 = W0.heap.size := by rw [hW0]; simp
  go_enter Tryz.func94, Tryz.ntmps94
  go_upto_region 9 with fail
  rw [← hW0] at hR hB hT0 ⊢
  clear hW0
  have d0 := hB.cell 0; have d1 := hB.cell 1; have d2 := hB.cell 2; have d3 := hB.cell 3
  simp at d0 d1 d2 d3
  have hS0 : (fun w' : World => w'.cell? ⟨w.heap.size + 1, 0, none⟩ = some (.int .i64 6) ∧ w'.cell? ⟨w.heap.size + 1, 1, none⟩ = some (.int .i64 l) ∧ w'.cell? ⟨w.heap.size + 1, 2, none⟩ = some (.int .i64 lo) ∧ w'.cell? ⟨w.heap.size + 1, 3, none⟩ = some (.int .i64 hi)) W0.drew := ⟨d0, d1, d2, d3⟩
  have hbD : Below W0.heap.size W0 W0.drew := (Below.refl _ _).drew
  refine wp_region_X (fun w' : World => w'.cell? ⟨w.heap.size + 1, 0, none⟩ = some (.int .i64 6) ∧ w'.cell? ⟨w.heap.size + 1, 1, none⟩ = some (.int .i64 l) ∧ w'.cell? ⟨w.heap.size + 1, 2, none⟩ = some (.int .i64 lo) ∧ w'.cell? ⟨w.heap.size + 1, 3, none⟩ = some (.int .i64 hi)) 7 (by kernel_rfl) ?_
  (refine wpX_take (i := 0) (v := ?_) (by simp only [List.getElem?_toArray, List.getElem?_cons_succ, List.getElem?_cons_zero]; rfl) (by kernel_rfl) (by kernel_rfl) (by kernel_rfl) (by kernel_rfl) (by exact fun _ _ _ h => h) (Or.inl ⟨by rfl, ?_⟩) (by assumption) ?_; rotate_left; (intro w hSw; (try dsimp only at hSw); go_simp); (try with_reducible rfl); (try simp only [Act.put, List.setIfInBounds_toArray, List.set_cons_zero, List.set_cons_succ]))
  (refine wpX_take (i := 1) (v := ?_) (by simp only [List.getElem?_toArray, List.getElem?_cons_succ, List.getElem?_cons_zero]; rfl) (by kernel_rfl) (by kernel_rfl) (by kernel_rfl) (by kernel_rfl) (by exact fun _ _ _ h => h) (Or.inl ⟨by rfl, ?_⟩) (by assumption) ?_; rotate_left; (intro w hSw; (try dsimp only at hSw); go_simp); (try with_reducible rfl); (try simp only [Act.put, List.setIfInBounds_toArray, List.set_cons_zero, List.set_cons_succ]))
  (refine wpX_take (i := 2) (v := ?_) (by simp only [List.getElem?_toArray, List.getElem?_cons_succ, List.getElem?_cons_zero]; rfl) (by kernel_rfl) (by kernel_rfl) (by kernel_rfl) (by kernel_rfl) (by exact fun _ _ _ h => h) (Or.inl ⟨by rfl, ?_⟩) (by assumption) ?_; rotate_left; (intro w hSw; (try dsimp only at hSw); go_simp); (try with_reducible rfl); (try simp only [Act.put, List.setIfInBounds_toArray, List.set_cons_zero, List.set_cons_succ]))
  (refine wpX_take (i := 4) (v := ?_) (by simp only [List.getElem?_toArray, List.getElem?_cons_succ, List.getElem?_cons_zero]; rfl) (by kernel_rfl) (by kernel_rfl) (by kernel_rfl) (by kernel_rfl) (by exact fun _ _ _ h => h) (Or.inl ⟨by rfl, ?_⟩) (by assumption) ?_; rotate_left; (intro w hSw; (try dsimp only at hSw); go_simp); (try with_reducible rfl); (try simp only [Act.put, List.setIfInBounds_toArray, List.set_cons_zero, List.set_cons_succ]))
  (refine wpX_take (i := 5) (v := ?_) (by simp only [List.getElem?_toArray, List.getElem?_cons_succ, List.getElem?_cons_zero]; rfl) (by kernel_rfl) (by kernel_rfl) (by kernel_rfl) (by kernel_rfl) (by exact fun _ _ _ h => h) (Or.inl ⟨by rfl, ?_⟩) (by assumption) ?_; rotate_left; (intro w hSw; (try dsimp only at hSw); go_simp); (try with_reducible rfl); (try simp only [Act.put, List.setIfInBounds_toArray, List.set_cons_zero, List.set_cons_succ]))
  refine wpX_one (i := 3) (by kernel_rfl) (by simp only [List.getElem?_toArray, List.getElem?_cons_succ, List.getElem?_cons_zero]; rfl) (fun K hK => ?_)
  go_simp
  refine (ih (some ⟨b, off, none⟩) c _ (by exact hT0) (by omega)).mono ?_
  rintro e w3 ⟨v3, rfl, hO3, hb3⟩
  have hb03 := hbD.trans hb3
  have hB3 := hB.below hb03 hB.lt
  have hR3 := hR.below hb03 hR.lt
  have s3 : (fun w' : World => w'.cell? ⟨w.heap.size + 1, 0, none⟩ = some (.int .i64 6) ∧ w'.cell? ⟨w.heap.size + 1, 1, none⟩ = some (.int .i64 l) ∧ w'.cell? ⟨w.heap.size + 1, 2, none⟩ = some (.int .i64 lo) ∧ w'.cell? ⟨w.heap.size + 1, 3, none⟩ = some (.int .i64 hi)) w3 := ⟨hB3.cell 0, hB3.cell 1, hB3.cell 2, hB3.cell 3⟩
  (refine hK.out _ _ (Or.inr s3) ?_; clear hK; (try simp only [Act.put, List.setIfInBounds_toArray, List.set_cons_zero, List.set_cons_succ]))
  refine wpX_one (i := 6) (by kernel_rfl) (by simp only [List.getElem?_toArray, List.getElem?_cons_succ, List.getElem?_cons_zero]; rfl) (fun K hK => ?_)
  go_simp
  refine (l8Join_any (expT a).flat [] _ _ 6 l lo hi _ (fun _ => True) _ hO3.ex ⟨none, 0, rfl, Sl.nil_⟩ (by have := HL.out; simp; omega)).mono ?_
  rintro e w4 ⟨v4, rfl, hO4, hb4⟩
  rw [← HE.out] at hO4
  obtain ⟨Au, cu, rfl, ho4⟩ := hO4.form
  have hB4 := hB3.below hb4 hB3.lt
  have hR4 := hR3.below hb4 hR3.lt
  have s4 : (fun w' : World => w'.cell? ⟨w.heap.size + 1, 0, none⟩ = some (.int .i64 6) ∧ w'.cell? ⟨w.heap.size + 1, 1, none⟩ = some (.int .i64 l) ∧ w'.cell? ⟨w.heap.size + 1, 2, none⟩ = some (.int .i64 lo) ∧ w'.cell? ⟨w.heap.size + 1, 3, none⟩ = some (.int .i64 hi)) w4 := ⟨hB4.cell 0, hB4.cell 1, hB4.cell 2, hB4.cell 3⟩
  have q4 := hR4.cell 0
  have z4 := hR4.frozen 0
  have l4 := hR4.lt
  simp at q4
  (refine hK.out _ _ (Or.inr s4) ?_; clear hK; (try simp only [Act.put, List.setIfInBounds_toArray, List.set_cons_zero, List.set_cons_succ]))
  refine wpX_one (i := 7) (by kernel_rfl) (by simp only [List.getElem?_toArray, List.getElem?_cons_succ, List.getElem?_cons_zero]; rfl) (fun K hK => ?_)
  go_simp
  (refine hK.out _ _ (Or.inl rfl) ?_; clear hK; (try simp only [Act.put, List.setIfInBounds_toArray, List.set_cons_zero, List.set_cons_succ]))
  refine wpX_done (by kernel_rfl) ?_ _
  go_wp2_with fail
  refine bodyPost_ret (v := .agg #[.slice Au (expT (.un a ⟨6, l, lo, hi⟩)).flat.length cu]) (by simp [results, Tryz.results94, go_sem, q4]) rfl ?_
  have hs3 := hb03.size
  refine ⟨_, rfl, ⟨_, rfl, own_mono (base' := w.heap.size) (own_set ho4 hR4 (by decide) 0 _) (by omega)⟩, below_set ((hb0.trans (hb03.mono (by omega))).trans (hb4.mono (by omega))) (by omega) _ _⟩
set_option maxRecDepth 100000 in
set_option maxHeartbeats 1000000 in
theorem exp_seven (a : Tr) (ha : a.Ok) (l lo hi : Int) (ht : arI ⟨7, l, lo, hi⟩ = 1) (n : Nat) (hn : n = a.flat.length) (hl : n ≤ 23) (p : Nat → Prop)
    (ih : ∀ (A : Option Addr) (c : Nat) (w : World), Tks w p A a.flat → n ≤ c → Calls Tryz.prog 94 #[.slice A n c] w fun e w' => ExpPost w a e w')
    (A : Option Addr) (c : Nat) (hc : n + 1 ≤ c) (w : World) (h : Tks w p A (a.flat ++ [⟨7, l, lo, hi⟩])) :
    Calls Tryz.prog 94 #[.slice A (n + 1) c] w fun e w' => ExpPost w (.un a ⟨7, l, lo, hi⟩) e w' := by
  obtain ⟨b, off, rfl, _, _, c0, c1, c2, c3⟩ := Tks.last h
  simp only at c0 c1 c2 c3
  rw [← hn] at c0 c1 c2 c3
  have HE : Hid ((expT (.un a ⟨7, l, lo, hi⟩)).flat = (timesT (expT a) lo.toNat hi.toNat).flat) := Lib.hid (by simp [expT])
  have hs7 := arI_seven ht rfl
  obtain ⟨lo, rfl⟩ : ∃ m : Nat, lo = m := ⟨lo.toNat, by simp only at hs7; omega⟩
  obtain ⟨hi, rfl⟩ : ∃ m : Nat, hi = m := ⟨hi.toNat, by simp only at hs7; omega⟩
  simp only at hs7
  simp only [Int.toNat_natCast] at HE
  have hs7 : lo ≤ 3 ∧ hi ≤ 3 := by omega
  have HL := Lib.hid (expT_bound ha (by omega))
  have hT := h.un_
  have hR := (Blk.new w 66 #[.slice none 0 0]).alloc (.cells #[.int .i64 7, .int .i64 l, .int .i64 lo, .int .i64 hi] 89)
  have hB := blk2 w (.cells #[.slice none 0 0] 66) 89 #[.int .i64 7, .int .i64 l, .int .i64 lo, .int .i64 hi]
  have hT0 := (hT.al (.cells #[.slice none 0 0] 66)).al (.cells #[.int .i64 7, .int .i64 l, .int .i64 lo, .int .i64 hi] 89)
  have ihn := Lib.hid hn
  clear hn
  have hci : (n : Int) ≤ (c : Int) := by omega
  obtain ⟨W0, hW0⟩ : ∃ W0, W0 = (w.alloc (.cells #[.slice none 0 0] 66)).alloc (.cells #[.int .i64 7, .int .i64 l, .int .i64 lo, .int .i64 hi] 89) := ⟨_, rfl⟩
  have hb0 : Below w.heap.size w W0 := by rw [hW0]; exact below_alloc2 w _ _
  have hs0 : w.heap.size + 1 + 1 = W0.heap.size := by rw [hW0]; simp
  go_enter Tryz.func94, Tryz.ntmps94
  go_upto_region 11 with fail
  rw [← hW0] at hR hB hT0 ⊢
  clear hW0
  have d0 := hB.cell 0; have d1 := hB.cell 1; have d2 := hB.cell 2; have d3 := hB.cell 3
  simp at d0 d1 d2 d3
  have hS0 : (fun w' : World => w'.cell? ⟨w.heap.size + 1, 0, none⟩ = some (.int .i64 7) ∧ w'.cell? ⟨w.heap.size + 1, 1, none⟩ = some (.int .i64 l) ∧ w'.cell? ⟨w.heap.size + 1, 2, none⟩ = some (.int .i64 lo) ∧ w'.cell? ⟨w.heap.size + 1, 3, none⟩ = some (.int .i64 hi)) W0.drew := ⟨d0, d1, d2, d3⟩
  have hbD : Below W0.heap.size W0 W0.drew := (Below.refl _ _).drew
  refine wp_region_X (fun w' : World => w'.cell? ⟨w.heap.size + 1, 0, none⟩ = some (.int .i64 7) ∧ w'.cell? ⟨w.heap.size + 1, 1, none⟩ = some (.int .i64 l) ∧ w'.cell? ⟨w.heap.size + 1, 2, none⟩ = some (.int .i64 lo) ∧ w'.cell? ⟨w.heap.size + 1, 3, none⟩ = some (.int .i64 hi)) 9 (by kernel_rfl) ?_
  (refine wpX_take (i := 0) (v := ?_) (by simp only [List.getElem?_toArray, List.getElem?_cons_succ, List.getElem?_cons_zero]; rfl) (by kernel_rfl) (by kernel_rfl) (by kernel_rfl) (by kernel_rfl) (by exact fun _ _ _ h => h) (Or.inl ⟨by rfl, ?_⟩) (by assumption) ?_; rotate_left; (intro w hSw; (try dsimp only at hSw); go_simp); (try with_reducible rfl); (try simp only [Act.put, List.setIfInBounds_toArray, List.set_cons_zero, List.set_cons_succ]))
  (refine wpX_take (i := 1) (v := ?_) (by simp only [List.getElem?_toArray, List.getElem?_cons_succ, List.getElem?_cons_zero]; rfl) (by kernel_rfl) (by kernel_rfl) (by kernel_rfl) (by kernel_rfl) (by exact fun _ _ _ h => h) (Or.inl ⟨by rfl, ?_⟩) (by assumption) ?_; rotate_left; (intro w hSw; (try dsimp only at hSw); go_simp); (try with_reducible rfl); (try simp only [Act.put, List.setIfInBounds_toArray, List.set_cons_zero, List.set_cons_succ]))
  (refine wpX_take (i := 2) (v := ?_) (by simp only [List.getElem?_toArray, List.getElem?_cons_succ, List.getElem?_cons_zero]; rfl) (by kernel_rfl) (by kernel_rfl) (by kernel_rfl) (by kernel_rfl) (by exact fun _ _ _ h => h) (Or.inl ⟨by rfl, ?_⟩) (by assumption) ?_; rotate_left; (intro w hSw; (try dsimp only at hSw); go_simp); (try with_reducible rfl); (try simp only [Act.put, List.setIfInBounds_toArray, List.set_cons_zero, List.set_cons_succ]))
  (refine wpX_take (i := 4) (v := ?_) (by simp only [List.getElem?_toArray, List.getElem?_cons_succ, List.getElem?_cons_zero]; rfl) (by kernel_rfl) (by kernel_rfl) (by kernel_rfl) (by kernel_rfl) (by exact fun _ _ _ h => h) (Or.inl ⟨by rfl, ?_⟩) (by assumption) ?_; rotate_left; (intro w hSw; (try dsimp only at hSw); go_simp); (try with_reducible rfl); (try simp only [Act.put, List.setIfInBounds_toArray, List.set_cons_zero, List.set_cons_succ]))
  (refine wpX_take (i := 5) (v := ?_) (by simp only [List.getElem?_toArray, List.getElem?_cons_succ, List.getElem?_cons_zero]; rfl) (by kernel_rfl) (by kernel_rfl) (by kernel_rfl) (by kernel_rfl) (by exact fun _ _ _ h => h) (Or.inl ⟨by rfl, ?_⟩) (by assumption) ?_; rotate_left; (intro w hSw; (try dsimp only at hSw); go_simp); (try with_reducible rfl); (try simp only [Act.put, List.setIfInBounds_toArray, List.set_cons_zero, List.set_cons_succ]))
  (refine wpX_take (i := 6) (v := ?_) (by simp only [List.getElem?_toArray, List.getElem?_cons_succ, List.getElem?_cons_zero]; rfl) (by kernel_rfl) (by kernel_rfl) (by kernel_rfl) (by kernel_rfl) (by exact fun _ _ _ h => h) (Or.inl ⟨by rfl, ?_⟩) (by assumption) ?_; rotate_left; (intro w hSw; (try dsimp only at hSw); go_simp); (try with_reducible rfl); (try simp only [Act.put, List.setIfInBounds_toArray, List.set_cons_zero, List.set_cons_succ]))
  (refine wpX_take (i := 7) (v := ?_) (by simp only [List.getElem?_toArray, List.getElem?_cons_succ, List.getElem?_cons_zero]; rfl) (by kernel_rfl) (by kernel_rfl) (by kernel_rfl) (by kernel_rfl) (by exact fun _ _ _ h => h) (Or.inl ⟨by rfl, ?_⟩) (by assumption) ?_; rotate_left; (intro w hSw; (try dsimp only at hSw); go_simp); (try with_reducible rfl); (try simp only [Act.put, List.setIfInBounds_toArray, List.set_cons_zero, List.set_cons_succ]))
  refine wpX_one (i := 3) (by kernel_rfl) (by simp only [List.getElem?_toArray, List.getElem?_cons_succ, List.getElem?_cons_zero]; rfl) (fun K hK => ?_)
  go_simp
  refine (ih (some ⟨b, off, none⟩) c _ (by exact hT0) (by omega)).mono ?_
  rintro e w3 ⟨v3, rfl, hO3, hb3⟩
  have hb03 := hbD.trans hb3
  have hB3 := hB.below hb03 hB.lt
  have hR3 := hR.below hb03 hR.lt
  have s3 : (fun w' : World => w'.cell? ⟨w.heap.size + 1, 0, none⟩ = some (.int .i64 7) ∧ w'.cell? ⟨w.heap.size + 1, 1, none⟩ = some (.int .i64 l) ∧ w'.cell? ⟨w.heap.size + 1, 2, none⟩ = some (.int .i64 lo) ∧ w'.cell? ⟨w.heap.size + 1, 3, none⟩ = some (.int .i64 hi)) w3 := ⟨hB3.cell 0, hB3.cell 1, hB3.cell 2, hB3.cell 3⟩
  (refine hK.out _ _ (Or.inr s3) ?_; clear hK; (try simp only [Act.put, List.setIfInBounds_toArray, List.set_cons_zero, List.set_cons_succ]))
  refine wpX_one (i := 8) (by kernel_rfl) (by simp only [List.getElem?_toArray, List.getElem?_cons_succ, List.getElem?_cons_zero]; rfl) (fun K hK => ?_)
  go_simp
  obtain ⟨A3, c3', rfl, ho3⟩ := hO3.form
  refine (l10Times_any (expT a) A3 c3' _ (by have := HL.out; omega) hi lo _ (Sl.of_own ho3 (fun b hb => own_ge ho3 b hb)) hs7.1 hs7.2).mono ?_
  rintro e w4 ⟨v4, rfl, hO4, hb4⟩
  rw [← HE.out] at hO4
  obtain ⟨Au, cu, rfl, ho4⟩ := hO4.form
  have hB4 := hB3.below hb4 hB3.lt
  have hR4 := hR3.below hb4 hR3.lt
  have s4 : (fun w' : World => w'.cell? ⟨w.heap.size + 1, 0, none⟩ = some (.int .i64 7) ∧ w'.cell? ⟨w.heap.size + 1, 1, none⟩ = some (.int .i64 l) ∧ w'.cell? ⟨w.heap.size + 1, 2, none⟩ = some (.int .i64 lo) ∧ w'.cell? ⟨w.heap.size + 1, 3, none⟩ = some (.int .i64 hi)) w4 := ⟨hB4.cell 0, hB4.cell 1, hB4.cell 2, hB4.cell 3⟩
  have q4 := hR4.cell 0
  have z4 := hR4.frozen 0
  have l4 := hR4.lt
  simp at q4
  (refine hK.out _ _ (Or.inr s4) ?_; clear hK; (try simp only [Act.put, List.setIfInBounds_toArray, List.set_cons_zero, List.set_cons_succ]))
  refine wpX_one (i := 9) (by kernel_rfl) (by simp only [List.getElem?_toArray, List.getElem?_cons_succ, List.getElem?_cons_zero]; rfl) (fun K hK => ?_)
  go_simp
  (refine hK.out _ _ (Or.inl rfl) ?_; clear hK; (try simp only [Act.put, List.setIfInBounds_toArray, List.set_cons_zero, List.set_cons_succ]))
  refine wpX_done (by kernel_rfl) ?_ _
  go_wp2_with fail
  refine bodyPost_ret (v := .agg #[.slice Au (expT (.un a ⟨7, l, lo, hi⟩)).flat.length cu]) (by simp [results, Tryz.results94, go_sem, q4]) rfl ?_
  have hs3 := hb03.size
  refine ⟨_, rfl, ⟨_, rfl, own_mono (base' := w.heap.size) (own_set ho4 hR4 (by decide) 0 _) (by omega)⟩, below_set ((hb0.trans (hb03.mono (by omega))).trans (hb4.mono (by omega))) (by omega) _ _⟩
set_option maxRecDepth 100000 in
set_option maxHeartbeats 1000000 in
theorem exp_four (a b : Tr) (ha : a.Ok) (hb : b.Ok) (l lo hi : Int) (n m : Nat) (hn : n = a.flat.length) (hm : m = b.flat.length) (hl : n + m ≤ 23) (p : Nat → Prop)
    (iha : ∀ (A : Option Addr) (c : Nat) (w : World), Tks w p A a.flat → n ≤ c → Calls Tryz.prog 94 #[.slice A n c] w fun e w' => ExpPost w a e w')
    (ihb : ∀ (A : Option Addr) (c : Nat) (w : World), Tks w p A b.flat → m ≤ c → Calls Tryz.prog 94 #[.slice A m c] w fun e w' => ExpPost w b e w')
    (A : Option Addr) (c : Nat) (hc : n + m + 1 ≤ c) (w : World) (h : Tks w p A (a.flat ++ b.flat ++ [⟨4, l, lo, hi⟩])) :
    Calls Tryz.prog 94 #[.slice A (n + m + 1) c] w fun e w' => ExpPost w (.bi a b ⟨4, l, lo, hi⟩) e w' := by
  obtain ⟨bb, off, rfl, _, _, c0, c1, c2, c3⟩ := Tks.last h
  simp only [List.length_append] at c0 c1 c2 c3
  rw [← hn, ← hm] at c0 c1 c2 c3
  have HE : Hid ((expT (.bi a b ⟨4, l, lo, hi⟩)).flat = (expT a).flat ++ (expT b).flat ++ [⟨4, l, lo, hi⟩]) := Lib.hid (by simp [expT, Tr.flat])
  have HL := Lib.hid (expT_bound ha (by omega))
  have HM := Lib.hid (expT_bound hb (by omega))
  have hT := h.un_
  have hTa := hT.left
  have hTb : Tks w p (some ⟨bb, off + n * 4, none⟩) b.flat := by rw [hn]; exact hT.right
  have hR := (Blk.new w 66 #[.slice none 0 0]).alloc (.cells #[.int .i64 4, .int .i64 l, .int .i64 lo, .int .i64 hi] 89)
  have hB := blk2 w (.cells #[.slice none 0 0] 66) 89 #[.int .i64 4, .int .i64 l, .int .i64 lo, .int .i64 hi]
  have hT0 := (hT.al (.cells #[.slice none 0 0] 66)).al (.cells #[.int .i64 4, .int .i64 l, .int .i64 lo, .int .i64 hi] 89)
  have hTa0 := (hTa.al (.cells #[.slice none 0 0] 66)).al (.cells #[.int .i64 4, .int .i64 l, .int .i64 lo, .int .i64 hi] 89)
  have hTb0 := (hTb.al (.cells #[.slice none 0 0] 66)).al (.cells #[.int .i64 4, .int .i64 l, .int .i64 lo, .int .i64 hi] 89)
  have ihn := Lib.hid hn
  have ihm := Lib.hid hm
  have hpos := a.flat_pos
  have hposb := b.flat_pos
  have hnp : 0 < n := by omega
  have hmp : 0 < m := by omega
  clear hn hm hpos hposb
  have hci : (n : Int) + (m : Int) ≤ (c : Int) := by omega
  have hci2 : (n : Int) ≤ (c : Int) := by omega
  have hci3 : (n : Int) ≤ (n : Int) + (m : Int) := by omega
  obtain ⟨W0, hW0⟩ : ∃ W0, W0 = (w.alloc (.cells #[.slice none 0 0] 66)).alloc (.cells #[.int .i64 4, .int .i64 l, .int .i64 lo, .int .i64 hi] 89) := ⟨_, rfl⟩
  have hb0 : Below w.heap.size w W0 := by rw [hW0]; exact below_alloc2 w _ _
  have hs0 : w.heap.size + 1 + 1 = W0.heap.size := by rw [hW0]; simp
  go_enter Tryz.func94, Tryz.ntmps94
  go_upto_region 7 with (first | (rw [← hW0]; go_at_call 95; refine (l8Start_any a.flat b hb (n + m) _ c p _ (by rw [← hW0] at hT0; exact hT0) (by have := ihn.out; have := ihm.out; simp; omega) (by have := ihn.out; have := ihm.out; simp; omega)).mono ?_; rintro e w1 ⟨rfl, hb1⟩))
  rw [← hW0] at hB hR hTa0 hTb0
  clear hW0
  have hB1 := hB.below hb1 hB.lt
  have hR1 := hR.below hb1 hR.lt
  have hTa1 := hTa0.below hb1
  have hTb1 := hTb0.below hb1
  have d0 := hB1.cell 0; have d1 := hB1.cell 1; have d2 := hB1.cell 2; have d3 := hB1.cell 3
  simp at d0 d1 d2 d3
  rw [← ihn.out]
  have hS0 : (fun w' : World => w'.cell? ⟨w.heap.size + 1, 0, none⟩ = some (.int .i64 4) ∧ w'.cell? ⟨w.heap.size + 1, 1, none⟩ = some (.int .i64 l) ∧ w'.cell? ⟨w.heap.size + 1, 2, none⟩ = some (.int .i64 lo) ∧ w'.cell? ⟨w.heap.size + 1, 3, none⟩ = some (.int .i64 hi)) w1.drew := ⟨d0, d1, d2, d3⟩
  have hbD : Below W0.heap.size W0 w1.drew := hb1.drew
  refine wp_region_X (fun w' : World => w'.cell? ⟨w.heap.size + 1, 0, none⟩ = some (.int .i64 4) ∧ w'.cell? ⟨w.heap.size + 1, 1, none⟩ = some (.int .i64 l) ∧ w'.cell? ⟨w.heap.size + 1, 2, none⟩ = some (.int .i64 lo) ∧ w'.cell? ⟨w.heap.size + 1, 3, none⟩ = some (.int .i64 hi)) 11 (by kernel_rfl) ?_
  (refine wpX_take (i := 0) (v := ?_) (by simp only [List.getElem?_toArray, List.getElem?_cons_succ, List.getElem?_cons_zero]; rfl) (by kernel_rfl) (by kernel_rfl) (by kernel_rfl) (by kernel_rfl) (by exact fun _ _ _ h => h) (Or.inl ⟨by rfl, ?_⟩) (by assumption) ?_; rotate_left; (intro w hSw; (try dsimp only at hSw); go_simp); (try with_reducible rfl); (try simp only [Act.put, List.setIfInBounds_toArray, List.set_cons_zero, List.set_cons_succ]))
  (refine wpX_take (i := 1) (v := ?_) (by simp only [List.getElem?_toArray, List.getElem?_cons_succ, List.getElem?_cons_zero]; rfl) (by kernel_rfl) (by kernel_rfl) (by kernel_rfl) (by kernel_rfl) (by exact fun _ _ _ h => h) (Or.inl ⟨by rfl, ?_⟩) (by assumption) ?_; rotate_left; (intro w hSw; (try dsimp only at hSw); go_simp); (try with_reducible rfl); (try simp only [Act.put, List.setIfInBounds_toArray, List.set_cons_zero, List.set_cons_succ]))
  (refine wpX_take (i := 2) (v := ?_) (by simp only [List.getElem?_toArray, List.getElem?_cons_succ, List.getElem?_cons_zero]; rfl) (by kernel_rfl) (by kernel_rfl) (by kernel_rfl) (by kernel_rfl) (by exact fun _ _ _ h => h) (Or.inl ⟨by rfl, ?_⟩) (by assumption) ?_; rotate_left; (intro w hSw; (try dsimp only at hSw); go_simp); (try with_reducible rfl); (try simp only [Act.put, List.setIfInBounds_toArray, List.set_cons_zero, List.set_cons_succ]))
  (refine wpX_take (i := 4) (v := ?_) (by simp only [List.getElem?_toArray, List.getElem?_cons_succ, List.getElem?_cons_zero]; rfl) (by kernel_rfl) (by kernel_rfl) (by kernel_rfl) (by kernel_rfl) (by exact fun _ _ _ h => h) (Or.inl ⟨by rfl, ?_⟩) (by assumption) ?_; rotate_left; (intro w hSw; (try dsimp only at hSw); go_simp); (try with_reducible rfl); (try simp only [Act.put, List.setIfInBounds_toArray, List.set_cons_zero, List.set_cons_succ]))
  (refine wpX_take (i := 5) (v := ?_) (by simp only [List.getElem?_toArray, List.getElem?_cons_succ, List.getElem?_cons_zero]; rfl) (by kernel_rfl) (by kernel_rfl) (by kernel_rfl) (by kernel_rfl) (by exact fun _ _ _ h => h) (Or.inl ⟨by rfl, ?_⟩) (by assumption) ?_; rotate_left; (intro w hSw; (try dsimp only at hSw); go_simp); (try with_reducible rfl); (try simp only [Act.put, List.setIfInBounds_toArray, List.set_cons_zero, List.set_cons_succ]))
  (refine wpX_take (i := 6) (v := ?_) (by simp only [List.getElem?_toArray, List.getElem?_cons_succ, List.getElem?_cons_zero]; rfl) (by kernel_rfl) (by kernel_rfl) (by kernel_rfl) (by kernel_rfl) (by exact fun _ _ _ h => h) (Or.inl ⟨by rfl, ?_⟩) (by assumption) ?_; rotate_left; (intro w hSw; (try dsimp only at hSw); go_simp); (try with_reducible rfl); (try simp only [Act.put, List.setIfInBounds_toArray, List.set_cons_zero, List.set_cons_succ]))
  (refine wpX_take (i := 7) (v := ?_) (by simp only [List.getElem?_toArray, List.getElem?_cons_succ, List.getElem?_cons_zero]; rfl) (by kernel_rfl) (by kernel_rfl) (by kernel_rfl) (by kernel_rfl) (by exact fun _ _ _ h => h) (Or.inl ⟨by rfl, ?_⟩) (by assumption) ?_; rotate_left; (intro w hSw; (try dsimp only at hSw); go_simp); (try with_reducible rfl); (try simp only [Act.put, List.setIfInBounds_toArray, List.set_cons_zero, List.set_cons_succ]))
  (refine wpX_take (i := 9) (v := ?_) (by simp only [List.getElem?_toArray, List.getElem?_cons_succ, List.getElem?_cons_zero]; rfl) (by kernel_rfl) (by kernel_rfl) (by kernel_rfl) (by kernel_rfl) (by exact fun _ _ _ h => h) (Or.inl ⟨by rfl, ?_⟩) (by assumption) ?_; rotate_left; (intro w hSw; (try dsimp only at hSw); go_simp); (try with_reducible rfl); (try simp only [Act.put, List.setIfInBounds_toArray, List.set_cons_zero, List.set_cons_succ]))
  refine wpX_one (i := 3) (by kernel_rfl) (by simp only [List.getElem?_toArray, List.getElem?_cons_succ, List.getElem?_cons_zero]; rfl) (fun K hK => ?_)
  go_simp
  refine (iha (some ⟨bb, off, none⟩) c _ (by exact hTa1) (by omega)).mono ?_
  rintro e w3 ⟨v3, rfl, hO3, hb3⟩
  have hb03 := hbD.trans (hb3.mono hb1.size)
  have hB3 := hB.below hb03 hB.lt
  have hR3 := hR.below hb03 hR.lt
  have hTb3 := hTb0.below hb03
  have s3 : (fun w' : World => w'.cell? ⟨w.heap.size + 1, 0, none⟩ = some (.int .i64 4) ∧ w'.cell? ⟨w.heap.size + 1, 1, none⟩ = some (.int .i64 l) ∧ w'.cell? ⟨w.heap.size + 1, 2, none⟩ = some (.int .i64 lo) ∧ w'.cell? ⟨w.heap.size + 1, 3, none⟩ = some (.int .i64 hi)) w3 := ⟨hB3.cell 0, hB3.cell 1, hB3.cell 2, hB3.cell 3⟩
  (refine hK.out _ _ (Or.inr s3) ?_; clear hK; (try simp only [Act.put, List.setIfInBounds_toArray, List.set_cons_zero, List.set_cons_succ]))
  refine wpX_one (i := 8) (by kernel_rfl) (by simp only [List.getElem?_toArray, List.getElem?_cons_succ, List.getElem?_cons_zero]; rfl) (fun K hK => ?_)
  go_simp
  rw [if_neg (show ¬ c = n by omega), show ((n : Int) + (m : Int)).toNat - n = m by omega]
  refine (ihb _ (c - n) _ hTb3 (by omega)).mono ?_
  rintro e w4 ⟨v4, rfl, hO4, hb4⟩
  have hb04 := hb03.trans (hb4.mono hb03.size)
  have hB4 := hB.below hb04 hB.lt
  have hR4 := hR.below hb04 hR.lt
  have s4 : (fun w' : World => w'.cell? ⟨w.heap.size + 1, 0, none⟩ = some (.int .i64 4) ∧ w'.cell? ⟨w.heap.size + 1, 1, none⟩ = some (.int .i64 l) ∧ w'.cell? ⟨w.heap.size + 1, 2, none⟩ = some (.int .i64 lo) ∧ w'.cell? ⟨w.heap.size + 1, 3, none⟩ = some (.int .i64 hi)) w4 := ⟨hB4.cell 0, hB4.cell 1, hB4.cell 2, hB4.cell 3⟩
  (refine hK.out _ _ (Or.inr s4) ?_; clear hK; (try simp only [Act.put, List.setIfInBounds_toArray, List.set_cons_zero, List.set_cons_succ]))
  refine wpX_one (i := 10) (by kernel_rfl) (by simp only [List.getElem?_toArray, List.getElem?_cons_succ, List.getElem?_cons_zero]; rfl) (fun K hK => ?_)
  go_simp
  refine (l8Join_any (expT a).flat (expT b).flat _ _ 4 l lo hi _ _ _ (hO3.ex.below hb4) hO4.ex (by have := HL.out; have := HM.out; omega)).mono ?_
  rintro e w5 ⟨v5, rfl, hO5, hb5⟩
  rw [← HE.out] at hO5
  obtain ⟨Au, cu, rfl, ho5⟩ := hO5.form
  have hb05 := hb04.trans (hb5.mono hb04.size)
  have hB5 := hB.below hb05 hB.lt
  have hR5 := hR.below hb05 hR.lt
  have s5 : (fun w' : World => w'.cell? ⟨w.heap.size + 1, 0, none⟩ = some (.int .i64 4) ∧ w'.cell? ⟨w.heap.size + 1, 1, none⟩ = some (.int .i64 l) ∧ w'.cell? ⟨w.heap.size + 1, 2, none⟩ = some (.int .i64 lo) ∧ w'.cell? ⟨w.heap.size + 1, 3, none⟩ = some (.int .i64 hi)) w5 := ⟨hB5.cell 0, hB5.cell 1, hB5.cell 2, hB5.cell 3⟩
  have q5 := hR5.cell 0
  have z5 := hR5.frozen 0
  have l5 := hR5.lt
  simp at q5
  (refine hK.out _ _ (Or.inr s5) ?_; clear hK; (try simp only [Act.put, List.setIfInBounds_toArray, List.set_cons_zero, List.set_cons_succ]))
  refine wpX_one (i := 11) (by kernel_rfl) (by simp only [List.getElem?_toArray, List.getElem?_cons_succ, List.getElem?_cons_zero]; rfl) (fun K hK => ?_)
  go_simp
  (refine hK.out _ _ (Or.inl rfl) ?_; clear hK; (try simp only [Act.put, List.setIfInBounds_toArray, List.set_cons_zero, List.set_cons_succ]))
  refine wpX_done (by kernel_rfl) ?_ _
  go_wp2_with fail
  refine bodyPost_ret (v := .agg #[.slice Au (expT (.bi a b ⟨4, l, lo, hi⟩)).flat.length cu]) (by simp [results, Tryz.results94, go_sem, q5]) rfl ?_
  have hs4 := hb04.size
  refine ⟨_, rfl, ⟨_, rfl, own_mono (base' := w.heap.size) (own_set ho5 hR5 (by decide) 0 _) (by omega)⟩, below_set (hb0.trans (hb05.mono (by omega))) (by omega) _ _⟩
set_option maxRecDepth 100000 in
set_option maxHeartbeats 1000000 in
theorem exp_five (a b : Tr) (ha : a.Ok) (hb : b.Ok) (l lo hi : Int) (n m : Nat) (hn : n = a.flat.length) (hm : m = b.flat.length) (hl : n + m ≤ 23) (p : Nat → Prop)
    (iha : ∀ (A : Option Addr) (c : Nat) (w : World), Tks w p A a.flat → n ≤ c → Calls Tryz.prog 94 #[.slice A n c] w fun e w' => ExpPost w a e w')
    (ihb : ∀ (A : Option Addr) (c : Nat) (w : World), Tks w p A b.flat → m ≤ c → Calls Tryz.prog 94 #[.slice A m c] w fun e w' => ExpPost w b e w')
    (A : Option Addr) (c : Nat) (hc : n + m + 1 ≤ c) (w : World) (h : Tks w p A (a.flat ++ b.flat ++ [⟨5, l, lo, hi⟩])) :
    Calls Tryz.prog 94 #[.slice A (n + m + 1) c] w fun e w' => ExpPost w (.bi a b ⟨5, l, lo, hi⟩) e w' := by
  obtain ⟨bb, off, rfl, _, _, c0, c1, c2, c3⟩ := Tks.last h
  simp only [List.length_append] at c0 c1 c2 c3
  rw [← hn, ← hm] at c0 c1 c2 c3
  have HE : Hid ((expT (.bi a b ⟨5, l, lo, hi⟩)).flat = (expT a).flat ++ (expT b).flat ++ [⟨5, l, lo, hi⟩]) := Lib.hid (by simp [expT, Tr.flat])
  have HL := Lib.hid (expT_bound ha (by omega))
  have HM := Lib.hid (expT_bound hb (by omega))
  have hT := h.un_
  have hTa := hT.left
  have hTb : Tks w p (some ⟨bb, off + n * 4, none⟩) b.flat := by rw [hn]; exact hT.right
  have hR := (Blk.new w 66 #[.slice none 0 0]).alloc (.cells #[.int .i64 5, .int .i64 l, .int .i64 lo, .int .i64 hi] 89)
  have hB := blk2 w (.cells #[.slice none 0 0] 66) 89 #[.int .i64 5, .int .i64 l, .int .i64 lo, .int .i64 hi]
  have hT0 := (hT.al (.cells #[.slice none 0 0] 66)).al (.cells #[.int .i64 5, .int .i64 l, .int .i64 lo, .int .i64 hi] 89)
  have hTa0 := (hTa.al (.cells #[.slice none 0 0] 66)).al (.cells #[.int .i64 5, .int .i64 l, .int .i64 lo, .int .i64 hi] 89)
  have hTb0 := (hTb.al (.cells #[.slice none 0 0] 66)).al (.cells #[.int .i64 5, .int .i64 l, .int .i64 lo, .int .i64 hi] 89)
  have ihn := Lib.hid hn
  have ihm := Lib.hid hm
  have hpos := a.flat_pos
  have hposb := b.flat_pos
  have hnp : 0 < n := by omega
  have hmp : 0 < m := by omega
  clear hn hm hpos hposb
  have hci : (n : Int) + (m : Int) ≤ (c : Int) := by omega
  have hci2 : (n : Int) ≤ (c : Int) := by omega
  have hci3 : (n : Int) ≤ (n : Int) + (m : Int) := by omega
  obtain ⟨W0, hW0⟩ : ∃ W0, W0 = (w.alloc (.cells #[.slice none 0 0] 66)).alloc (.cells #[.int .i64 5, .int .i64 l, .int .i64 lo, .int .i64 hi] 89) := ⟨_, rfl⟩
  have hb0 : Below w.heap.size w W0 := by rw [hW0]; exact below_alloc2 w _ _
  have hs0 : w.heap.size + 1 + 1 = W0.heap.size := by rw [hW0]; simp
  go_enter Tryz.func94, Tryz.ntmps94
  go_upto_region 7 with (first | (rw [← hW0]; go_at_call 95; refine (l8Start_any a.flat b hb (n + m) _ c p _ (by rw [← hW0] at hT0; exact hT0) (by have := ihn.out; have := ihm.out; simp; omega) (by have := ihn.out; have := ihm.out; simp; omega)).mono ?_; rintro e w1 ⟨rfl, hb1⟩))
  rw [← hW0] at hB hR hTa0 hTb0
  clear hW0
  have hB1 := hB.below hb1 hB.lt
  have hR1 := hR.below hb1 hR.lt
  have hTa1 := hTa0.below hb1
  have hTb1 := hTb0.below hb1
  have d0 := hB1.cell 0; have d1 := hB1.cell 1; have d2 := hB1.cell 2; have d3 := hB1.cell 3
  simp at d0 d1 d2 d3
  rw [← ihn.out]
  have hS0 : (fun w' : World => w'.cell? ⟨w.heap.size + 1, 0, none⟩ = some (.int .i64 5) ∧ w'.cell? ⟨w.heap.size + 1, 1, none⟩ = some (.int .i64 l) ∧ w'.cell? ⟨w.heap.size + 1, 2, none⟩ = some (.int .i64 lo) ∧ w'.cell? ⟨w.heap.size + 1, 3, none⟩ = some (.int .i64 hi)) w1.drew := ⟨d0, d1, d2, d3⟩
  have hbD : Below W0.heap.size W0 w1.drew := hb1.drew
  refine wp_region_X (fun w' : World => w'.cell? ⟨w.heap.size + 1, 0, none⟩ = some (.int .i64 5) ∧ w'.cell? ⟨w.heap.size + 1, 1, none⟩ = some (.int .i64 l) ∧ w'.cell? ⟨w.heap.size + 1, 2, none⟩ = some (.int .i64 lo) ∧ w'.cell? ⟨w.heap.size + 1, 3, none⟩ = some (.int .i64 hi)) 11 (by kernel_rfl) ?_
  (refine wpX_take (i := 0) (v := ?_) (by simp only [List.getElem?_toArray, List.getElem?_cons_succ, List.getElem?_cons_zero]; rfl) (by kernel_rfl) (by kernel_rfl) (by kernel_rfl) (by kernel_rfl) (by exact fun _ _ _ h => h) (Or.inl ⟨by rfl, ?_⟩) (by assumption) ?_; rotate_left; (intro w hSw; (try dsimp only at hSw); go_simp); (try with_reducible rfl); (try simp only [Act.put, List.setIfInBounds_toArray, List.set_cons_zero, List.set_cons_succ]))
  (refine wpX_take (i := 1) (v := ?_) (by simp only [List.getElem?_toArray, List.getElem?_cons_succ, List.getElem?_cons_zero]; rfl) (by kernel_rfl) (by kernel_rfl) (by kernel_rfl) (by kernel_rfl) (by exact fun _ _ _ h => h) (Or.inl ⟨by rfl, ?_⟩) (by assumption) ?_; rotate_left; (intro w hSw; (try dsimp only at hSw); go_simp); (try with_reducible rfl); (try simp only [Act.put, List.setIfInBounds_toArray, List.set_cons_zero, List.set_cons_succ]))
  (refine wpX_take (i := 2) (v := ?_) (by simp only [List.getElem?_toArray, List.getElem?_cons_succ, List.getElem?_cons_zero]; rfl) (by kernel_rfl) (by kernel_rfl) (by kernel_rfl) (by kernel_rfl) (by exact fun _ _ _ h => h) (Or.inl ⟨by rfl, ?_⟩) (by assumption) ?_; rotate_left; (intro w hSw; (try dsimp only at hSw); go_simp); (try with_reducible rfl); (try simp only [Act.put, List.setIfInBounds_toArray, List.set_cons_zero, List.set_cons_succ]))
  (refine wpX_take (i := 4) (v := ?_) (by simp only [List.getElem?_toArray, List.getElem?_cons_succ, List.getElem?_cons_zero]; rfl) (by kernel_rfl) (by kernel_rfl) (by kernel_rfl) (by kernel_rfl) (by exact fun _ _ _ h => h) (Or.inl ⟨by rfl, ?_⟩) (by assumption) ?_; rotate_left; (intro w hSw; (try dsimp only at hSw); go_simp); (try with_reducible rfl); (try simp only [Act.put, List.setIfInBounds_toArray, List.set_cons_zero, List.set_cons_succ]))
  (refine wpX_take (i := 5) (v := ?_) (by simp only [List.getElem?_toArray, List.getElem?_cons_succ, List.getElem?_cons_zero]; rfl) (by kernel_rfl) (by kernel_rfl) (by kernel_rfl) (by kernel_rfl) (by exact fun _ _ _ h => h) (Or.inl ⟨by rfl, ?_⟩) (by assumption) ?_; rotate_left; (intro w hSw; (try dsimp only at hSw); go_simp); (try with_reducible rfl); (try simp only [Act.put, List.setIfInBounds_toArray, List.set_cons_zero, List.set_cons_succ]))
  (refine wpX_take (i := 6) (v := ?_) (by simp only [List.getElem?_toArray, List.getElem?_cons_succ, List.getElem?_cons_zero]; rfl) (by kernel_rfl) (by kernel_rfl) (by kernel_rfl) (by kernel_rfl) (by exact fun _ _ _ h => h) (Or.inl ⟨by rfl, ?_⟩) (by assumption) ?_; rotate_left; (intro w hSw; (try dsimp only at hSw); go_simp); (try with_reducible rfl); (try simp only [Act.put, List.setIfInBounds_toArray, List.set_cons_zero, List.set_cons_succ]))
  (refine wpX_take (i := 7) (v := ?_) (by simp only [List.getElem?_toArray, List.getElem?_cons_succ, List.getElem?_cons_zero]; rfl) (by kernel_rfl) (by kernel_rfl) (by kernel_rfl) (by kernel_rfl) (by exact fun _ _ _ h => h) (Or.inl ⟨by rfl, ?_⟩) (by assumption) ?_; rotate_left; (intro w hSw; (try dsimp only at hSw); go_simp); (try with_reducible rfl); (try simp only [Act.put, List.setIfInBounds_toArray, List.set_cons_zero, List.set_cons_succ]))
  (refine wpX_take (i := 9) (v := ?_) (by simp only [List.getElem?_toArray, List.getElem?_cons_succ, List.getElem?_cons_zero]; rfl) (by kernel_rfl) (by kernel_rfl) (by kernel_rfl) (by kernel_rfl) (by exact fun _ _ _ h => h) (Or.inl ⟨by rfl, ?_⟩) (by assumption) ?_; rotate_left; (intro w hSw; (try dsimp only at hSw); go_simp); (try with_reducible rfl); (try simp only [Act.put, List.setIfInBounds_toArray, List.set_cons_zero, List.set_cons_succ]))
  refine wpX_one (i := 3) (by kernel_rfl) (by simp only [List.getElem?_toArray, List.getElem?_cons_succ, List.getElem?_cons_zero]; rfl) (fun K hK => ?_)
  go_simp
  refine (iha (some ⟨bb, off, none⟩) c _ (by exact hTa1) (by omega)).mono ?_
  rintro e w3 ⟨v3, rfl, hO3, hb3⟩
  have hb03 := hbD.trans (hb3.mono hb1.size)
  have hB3 := hB.below hb03 hB.lt
  have hR3 := hR.below hb03 hR.lt
  have hTb3 := hTb0.below hb03
  have s3 : (fun w' : World => w'.cell? ⟨w.heap.size + 1, 0, none⟩ = some (.int .i64 5) ∧ w'.cell? ⟨w.heap.size + 1, 1, none⟩ = some (.int .i64 l) ∧ w'.cell? ⟨w.heap.size + 1, 2, none⟩ = some (.int .i64 lo) ∧ w'.cell? ⟨w.heap.size + 1, 3, none⟩ = some (.int .i64 hi)) w3 := ⟨hB3.cell 0, hB3.cell 1, hB3.cell 2, hB3.cell 3⟩
  (refine hK.out _ _ (Or.inr s3) ?_; clear hK; (try simp only [Act.put, List.setIfInBounds_toArray, List.set_cons_zero, List.set_cons_succ]))
  refine wpX_one (i := 8) (by kernel_rfl) (by simp only [List.getElem?_toArray, List.getElem?_cons_succ, List.getElem?_cons_zero]; rfl) (fun K hK => ?_)
  go_simp
  rw [if_neg (show ¬ c = n by omega), show ((n : Int) + (m : Int)).toNat - n = m by omega]
  refine (ihb _ (c - n) _ hTb3 (by omega)).mono ?_
  rintro e w4 ⟨v4, rfl, hO4, hb4⟩
  have hb04 := hb03.trans (hb4.mono hb03.size)
  have hB4 := hB.below hb04 hB.lt
  have hR4 := hR.below hb04 hR.lt
  have s4 : (fun w' : World => w'.cell? ⟨w.heap.size + 1, 0, none⟩ = some (.int .i64 5) ∧ w'.cell? ⟨w.heap.size + 1, 1, none⟩ = some (.int .i64 l) ∧ w'.cell? ⟨w.heap.size + 1, 2, none⟩ = some (.int .i64 lo) ∧ w'.cell? ⟨w.heap.size + 1, 3, none⟩ = some (.int .i64 hi)) w4 := ⟨hB4.cell 0, hB4.cell 1, hB4.cell 2, hB4.cell 3⟩
  (refine hK.out _ _ (Or.inr s4) ?_; clear hK; (try simp only [Act.put, List.setIfInBounds_toArray, List.set_cons_zero, List.set_cons_succ]))
  refine wpX_one (i := 10) (by kernel_rfl) (by simp only [List.getElem?_toArray, List.getElem?_cons_succ, List.getElem?_cons_zero]; rfl) (fun K hK => ?_)
  go_simp
  refine (l8Join_any (expT a).flat (expT b).flat _ _ 5 l lo hi _ _ _ (hO3.ex.below hb4) hO4.ex (by have := HL.out; have := HM.out; omega)).mono ?_
  rintro e w5 ⟨v5, rfl, hO5, hb5⟩
  rw [← HE.out] at hO5
  obtain ⟨Au, cu, rfl, ho5⟩ := hO5.form
  have hb05 := hb04.trans (hb5.mono hb04.size)
  have hB5 := hB.below hb05 hB.lt
  have hR5 := hR.below hb05 hR.lt
  have s5 : (fun w' : World => w'.cell? ⟨w.heap.size + 1, 0, none⟩ = some (.int .i64 5) ∧ w'.cell? ⟨w.heap.size + 1, 1, none⟩ = some (.int .i64 l) ∧ w'.cell? ⟨w.heap.size + 1, 2, none⟩ = some (.int .i64 lo) ∧ w'.cell? ⟨w.heap.size + 1, 3, none⟩ = some (.int .i64 hi)) w5 := ⟨hB5.cell 0, hB5.cell 1, hB5.cell 2, hB5.cell 3⟩
  have q5 := hR5.cell 0
  have z5 := hR5.frozen 0
  have l5 := hR5.lt
  simp at q5
  (refine hK.out _ _ (Or.inr s5) ?_; clear hK; (try simp only [Act.put, List.setIfInBounds_toArray, List.set_cons_zero, List.set_cons_succ]))
  refine wpX_one (i := 11) (by kernel_rfl) (by simp only [List.getElem?_toArray, List.getElem?_cons_succ, List.getElem?_cons_zero]; rfl) (fun K hK => ?_)
  go_simp
  (refine hK.out _ _ (Or.inl rfl) ?_; clear hK; (try simp only [Act.put, List.setIfInBounds_toArray, List.set_cons_zero, List.set_cons_succ]))
  refine wpX_done (by kernel_rfl) ?_ _
  go_wp2_with fail
  refine bodyPost_ret (v := .agg #[.slice Au (expT (.bi a b ⟨5, l, lo, hi⟩)).flat.length cu]) (by simp [results, Tryz.results94, go_sem, q5]) rfl ?_
  have hs4 := hb04.size
  refine ⟨_, rfl, ⟨_, rfl, own_mono (base' := w.heap.size) (own_set ho5 hR5 (by decide) 0 _) (by omega)⟩, below_set (hb0.trans (hb05.mono (by omega))) (by omega) _ _⟩
theorem l10Expand_any : ∀ (a : Tr) (p : Nat → Prop) (A : Option Addr) (c : Nat) (w : World), a.Ok → a.flat.length ≤ 24 → Tks w p A a.flat → a.flat.length ≤ c →
    Calls Tryz.prog 94 #[.slice A a.flat.length c] w fun e w' => ExpPost w a e w'
  | .lf t, p, A, c, w, ha, _, h, _ => exp_lf t ha A c p w h
  | .un a ⟨k, l, lo, hi⟩, p, A, c, w, ha, hl, h, hc => by
    have e : (Tr.un a ⟨k, l, lo, hi⟩).flat.length = a.flat.length + 1 := by simp [Tr.flat]
    rw [e] at hl hc ⊢
    have hk := arI_one ha.2
    simp only at hk
    rcases hk with rfl | rfl
    · exact exp_six a ha.1 l lo hi _ rfl (by omega) p (fun A c w h hc => l10Expand_any a p A c w ha.1 (by omega) h hc) A c hc w h
    · exact exp_seven a ha.1 l lo hi ha.2 _ rfl (by omega) p (fun A c w h hc => l10Expand_any a p A c w ha.1 (by omega) h hc) A c hc w h
  | .bi a b ⟨k, l, lo, hi⟩, p, A, c, w, ha, hl, h, hc => by
    have e : (Tr.bi a b ⟨k, l, lo, hi⟩).flat.length = a.flat.length + b.flat.length + 1 := by simp [Tr.flat]; omega
    rw [e] at hl hc ⊢
    have hk := arI_two ha.2.2
    simp only at hk
    rcases hk with rfl | rfl
    · exact exp_four a b ha.1 ha.2.1 l lo hi _ _ rfl rfl (by omega) p (fun A c w h hc => l10Expand_any a p A c w ha.1 (by omega) h hc) (fun A c w h hc => l10Expand_any b p A c w ha.2.1 (by omega) h hc) A c hc w h
    · exact exp_five a b ha.1 ha.2.1 l lo hi _ _ rfl rfl (by omega) p (fun A c w h hc => l10Expand_any a p A c w ha.1 (by omega) h hc) (fun A c w h hc => l10Expand_any b p A c w ha.2.1 (by omega) h hc) A c hc w h
end Go.Proofs.YtmnhpbbapkcdjaaGreat
