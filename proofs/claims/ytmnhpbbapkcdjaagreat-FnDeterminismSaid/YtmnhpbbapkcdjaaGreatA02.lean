/- Walks: is an automaton valid?; Walks: the drawing cursor; Walks: drawing a number; Walks: drawing a letter; the cursor's start; Tokens as data, how they lie in memory. Walk: l8Arity; Tokens as trees (plain); walks: IsExpr, IsValidExpr, l8Start. No condition. -/
import Derived.Test.YtmnhpbbapkcdjaaGreatA01

/- Walks: is an automaton valid? -/
namespace Go.Proofs.YtmnhpbbapkcdjaaGreat
open Go.RowKit

set_option maxRecDepth 100000 in
theorem l11Fits_any (a : Aut) (v : Value) (w : World) (p : Nat → Prop) (h : AutV w p v a) :
    Calls Tryz.prog 46 #[v] w fun e w' => e = .returned (.bool (fitsB a)) ∧ Below w.heap.size w w' := by
  obtain ⟨A1, n1, c1, A2, n2, c2, rfl, h1, h2⟩ := h
  obtain rfl : a.n = n1 := h1.lenb
  have hl2 := h2.len
  have hm1 : a.n ≤ 9223372036854775807 := by have := h1.2.1; unfold maxLen at this; omega
  have hm2 : n2 ≤ 9223372036854775807 := by have := h2.le; unfold maxLen at this; omega
  clear h1
  have h2 := h2.alloc (.cells #[.int .i64 a.start, .slice A1 a.n c1, .slice A2 n2 c2] 31)
  have hb := below_alloc w (.cells #[.int .i64 a.start, .slice A1 a.n c1, .slice A2 n2 c2] 31)
  cases hst : inB a.start 0 (↑a.n - 1) with
  | false =>
    have Hr := Lib.hid (fitsB_no.2 fun hf => inB_no.1 hst ⟨hf.1, by have := hf.2.1; omega⟩)
    clear hl2 h2
    go_enter Tryz.func46, Tryz.ntmps46
    go_wp2_with (go_at_call 62; refine (l1In_any _ _ _ _).mono ?_; rintro e w' ⟨rfl, rfl⟩)
    go_ret
    exact ⟨by rw [Hr.out]; rfl, hb⟩
  | true =>
    have Hst := Lib.hid (inB_iff.1 hst)
    by_cases hn : n2 = a.n
    · subst hn
      have Hl := Lib.hid hl2; clear hl2
      go_enter Tryz.func46, Tryz.ntmps46
      go_wp2_with (go_at_call 62; refine (l1In_any _ _ _ _).mono ?_; rintro e w' ⟨rfl, rfl⟩)
      go_loop [4] (fun i => ∃ k : Nat, k ≤ a.n ∧ i = .int .i64 k ∧ RowsOk a k) (fun i => a.n - (intOf i).toNat)
      case atStart => exact ⟨0, Nat.zero_le _, rfl, RowsOk.zero a⟩
      case round =>
        obtain ⟨k1, hk1, rfl, hI1⟩ := hrel
        by_cases hlt : k1 < a.n
        · obtain ⟨bN, oN, A', m, c', rfl, hcN, hm, hm3, hx⟩ := h2.nx_at2 hlt
          have Hm := Lib.hid hm; clear hm
          by_cases hm9 : m = 9
          · subst hm9
            go_wp2_with fail
            go_loop [5] (fun i => ∃ k : Nat, k ≤ 9 ∧ i = .int .i64 k ∧ NxOk a k1 k) (fun i => 9 - (intOf i).toNat)
            case atStart => exact ⟨0, by omega, rfl, NxOk.zero a k1⟩
            case round =>
              obtain ⟨k2, hk2, rfl, hI2⟩ := hrel
              by_cases hlt2 : k2 < 9
              · obtain ⟨bR, oR, rfl, hcR⟩ := hx k2 hlt2
                clear hx
                cases hb2 : inB (a.nx k1 k2) (-1) (↑a.n - 1) with
                | false =>
                  have Hr := Lib.hid (fitsB_no.2 fun hf => inB_no.1 hb2 (by have := (hf.2.2.2 k1 hlt).2 k2 hlt2; omega))
                  go_wp2_with (go_at_call 62; refine (l1In_any _ _ _ _).mono ?_; rintro e w' ⟨rfl, rfl⟩)
                  go_ret
                  exact ⟨by rw [Hr.out]; rfl, hb⟩
                | true =>
                  go_wp2_with (go_at_call 62; refine (l1In_any _ _ _ _).mono ?_; rintro e w' ⟨rfl, rfl⟩)
                  go_round
                  case rel => exact ⟨k2 + 1, by omega, by go_num, hI2.succ (by have := inB_iff.1 hb2; omega)⟩
                  case measure => simp [intOf]; omega
              · obtain rfl : k2 = 9 := by omega
                clear hx
                go_wp2
                go_round
                case rel => exact ⟨k1 + 1, by omega, by go_num, hI1.succ ⟨Hm.out.symm, hI2⟩⟩
                case measure => simp [intOf]; omega
          · have Hr := Lib.hid (fitsB_no.2 fun hf => hm9 (by rw [Hm.out]; exact (hf.2.2.2 k1 hlt).1))
            clear hx
            go_wp2
            go_ret
            exact ⟨by rw [Hr.out]; rfl, hb⟩
        · obtain rfl : k1 = a.n := by omega
          have Hr := Lib.hid (fitsB_iff.2 ⟨Hst.out.1, by have := Hst.out.2; omega, Hl.out, hI1⟩)
          go_wp2
          go_ret
          exact ⟨by rw [Hr.out]; rfl, hb⟩
    · have Hr := Lib.hid (fitsB_no.2 fun hf => hn (by rw [← hl2]; exact hf.2.2.1))
      clear hl2 h2
      go_enter Tryz.func46, Tryz.ntmps46
      go_wp2_with (go_at_call 62; refine (l1In_any _ _ _ _).mono ?_; rintro e w' ⟨rfl, rfl⟩)
      go_ret
      exact ⟨by rw [Hr.out]; rfl, hb⟩
end Go.Proofs.YtmnhpbbapkcdjaaGreat

/- Walks: the drawing cursor. -/
namespace Go.Proofs.YtmnhpbbapkcdjaaGreat
open Go.RowKit

def byts (xs : List Int) : List Value := xs.map (Value.int .u8)
/-- a drawing cursor: its bytes lie in blocks of p, it itself in block g -/
def Cur (w : World) (p : Nat → Prop) (g : Nat) : Prop :=
  ∃ A n cap i h xs, Blk w g 71 #[.slice A n cap, .int .i64 (i : Nat), .int .i64 h] ∧ Sl w p 1 A n (byts xs) ∧ i ≤ n
/-- drawn from: nothing else has changed -/
def Drawn (w w' : World) (p : Nat → Prop) (g : Nat) : Prop := w.grownBy w' (some g) ∧ Cur w' p g
theorem Sl.byte_at {w : World} {p : Nat → Prop} {A : Option Addr} {n : Nat} {xs : List Int} {k : Nat} (h : Sl w p 1 A n (byts xs)) (hk : k < n) :
    ∃ b off x, A = some ⟨b, off, none⟩ ∧ p b ∧ b < w.heap.size ∧ w.cell? ⟨b, off + k, none⟩ = some (.int .u8 x) := by
  obtain ⟨b, off, u, hA, hp, hb, hu, hc⟩ := h.cell_at hk
  obtain ⟨x, _, rfl⟩ := List.mem_map.1 (List.mem_of_getElem? hu)
  exact ⟨b, off, x, hA, hp, hb, hc⟩

theorem bits255 (x : Int) : 0 ≤ bits BinOp.and IntKind.i64 x 255 ∧ bits BinOp.and IntKind.i64 x 255 < 256 := by
  have h : (BitVec.ofInt 64 x &&& BitVec.ofInt 64 255).toNat ≤ 255 := by
    rw [BitVec.toNat_and]
    exact Nat.le_trans Nat.and_le_right (by decide)
  show 0 ≤ IntKind.wrap .i64 ↑((BitVec.ofInt 64 x &&& BitVec.ofInt 64 255).toNat) ∧ IntKind.wrap .i64 ↑((BitVec.ofInt 64 x &&& BitVec.ofInt 64 255).toNat) < 256
  generalize (BitVec.ofInt 64 x &&& BitVec.ofInt 64 255).toNat = m at h
  unfold IntKind.wrap
  simp [IntKind.bits, IntKind.signed]
  omega
section
variable {w : World} {p : Nat → Prop} {g n cap i : Nat} {A : Option Addr} {hh u : Int} {xs : List Int}
theorem drawn_b (hB : Blk w g 71 #[.slice A n cap, .int .i64 (i : Nat), .int .i64 hh]) (hS : Sl w p 1 A n (byts xs)) (hi : i ≤ n) (hp : ∀ b, p b → b ≠ g) (d : Nat) :
    Drawn w ((w.setCell ⟨g, 2, none⟩ (.int .i64 u)).drewN d) p g := by
  refine ⟨⟨rfl, rfl, rfl, by simp, fun k hk hne => Below.heap_setCell w _ _ k (fun e => hne (by rw [e]))⟩, A, n, cap, i, u, xs, ?_, ?_, hi⟩
  · have := hB.set_ 2 (.int .i64 u)
    exact (show Blk (w.setCell ⟨g, 2, none⟩ (.int .i64 u)) g 71 #[.slice A n cap, .int .i64 (i : Nat), .int .i64 u] by simpa using this)
  · exact hS.set_ (a := ⟨g, 2, none⟩) (.int .i64 u) (fun b hb => hp b hb)
theorem drawn_a (hB : Blk w g 71 #[.slice A n cap, .int .i64 (i : Nat), .int .i64 hh]) (hS : Sl w p 1 A n (byts xs)) (hi : i < n) (hp : ∀ b, p b → b ≠ g) (d : Nat) :
    Drawn w (((w.setCell ⟨g, 2, none⟩ (.int .i64 u)).drewN d).setCell ⟨g, 1, none⟩ (.int .i64 ((i : Int) + 1))) p g := by
  refine ⟨⟨rfl, rfl, rfl, by simp, fun k hk hne => ?_⟩, A, n, cap, i + 1, u, xs, ?_, ?_, hi⟩
  · rw [Below.heap_setCell _ _ _ k (fun e => hne (by rw [e]))]
    exact Below.heap_setCell w _ _ k (fun e => hne (by rw [e]))
  · have h1 : Blk ((w.setCell ⟨g, 2, none⟩ (.int .i64 u)).drewN d) g 71 #[.slice A n cap, .int .i64 (i : Nat), .int .i64 u] := by
      have := hB.set_ 2 (.int .i64 u)
      exact (show Blk (w.setCell ⟨g, 2, none⟩ (.int .i64 u)) g 71 #[.slice A n cap, .int .i64 (i : Nat), .int .i64 u] by simpa using this)
    have := h1.set_ 1 (.int .i64 ((i : Int) + 1))
    simpa using this
  · exact Sl.set_ (w := (w.setCell ⟨g, 2, none⟩ (.int .i64 u)).drewN d) (a := ⟨g, 1, none⟩) (hS.set_ (a := ⟨g, 2, none⟩) (.int .i64 u) (fun b hb => hp b hb)) _ (fun b hb => hp b hb)
end

set_option maxRecDepth 100000 in
theorem l1Byte_any (g : Nat) (p : Nat → Prop) (w : World) (h : Cur w p g) (hp : ∀ b, p b → b ≠ g) :
    Calls Tryz.prog 86 #[.pointer (some ⟨g, 0, none⟩)] w fun e w' => ∃ r : Int, e = .returned (.int .i64 r) ∧ 0 ≤ r ∧ r < 256 ∧ Drawn w w' p g := by
  obtain ⟨A, n, cap, i, hh, xs, hB, hS, hi⟩ := h
  have f0 := hB.cell 0; have f1 := hB.cell 1; have f2 := hB.cell 2
  simp at f0 f1 f2
  have z1 := hB.frozen 1; have z2 := hB.frozen 2
  have hn : n ≤ 9223372036854775807 := by have := hS.2.1; unfold maxLen at this; omega
  by_cases hin : i < n
  · obtain ⟨b, off, x, rfl, hpb, hb, hc⟩ := hS.byte_at hin
    have hne := hp b hpb
    have hii : (i : Int) < (n : Int) := by omega
    go_enter Tryz.func86, Tryz.ntmps86
    go_wp2_with fail
    go_quiet (fail)
    go_wp2_with fail
    go_quiet (fail)
    go_wp2_with fail
    go_quiet (fail)
    go_wp2
    go_ret
    exact ⟨_, rfl, (bits255 _).1, (bits255 _).2, by (try simp only [World.drewN_drewN]); exact drawn_a hB hS hin hp _⟩
  · have hii : ¬ (i : Int) < (n : Int) := by omega
    go_enter Tryz.func86, Tryz.ntmps86
    go_wp2_with fail
    go_quiet (fail)
    go_wp2_with fail
    go_quiet (fail)
    go_wp2
    go_ret
    exact ⟨_, rfl, (bits255 _).1, (bits255 _).2, by (try simp only [World.drewN_drewN]); exact drawn_b hB hS hi hp _⟩
end Go.Proofs.YtmnhpbbapkcdjaaGreat

/- Walks: drawing a number. -/
namespace Go.Proofs.YtmnhpbbapkcdjaaGreat
open Go.RowKit

theorem grown_tr {w w1 w2 : World} {r : Option Nat} (h1 : w.grownBy w1 r) (h2 : w1.grownBy w2 r) : w.grownBy w2 r := grown_trans h1 h2
theorem Drawn.trans {w w1 w2 : World} {p : Nat → Prop} {g : Nat} (h1 : Drawn w w1 p g) (h2 : Drawn w1 w2 p g) : Drawn w w2 p g := ⟨grown_tr h1.1 h2.1, h2.2⟩
set_option maxRecDepth 100000 in
theorem l1Below_any (g n : Nat) (p : Nat → Prop) (w : World) (h : Cur w p g) (hp : ∀ b, p b → b ≠ g) (h1 : 0 < n) (h2 : n ≤ 256) :
    Calls Tryz.prog 53 #[.pointer (some ⟨g, 0, none⟩), .int .i64 n] w fun e w' => ∃ r : Nat, e = .returned (.int .i64 r) ∧ r < n ∧ Drawn w w' p g := by
  go_enter Tryz.func53, Tryz.ntmps53
  go_wp2_with (go_at_call 86; refine (l1Byte_any g p w h hp).mono ?_; rintro e w1 ⟨r, rfl, hr0, hr1, hd⟩)
  go_ret
  have hm := Int.emod_nonneg r (show (n : Int) ≠ 0 by omega)
  have hl := Int.emod_lt_of_pos r (show (0 : Int) < n by omega)
  exact ⟨(r % n).toNat, by rw [Int.toNat_of_nonneg hm]; rfl, by omega, hd⟩

theorem l1Once_any (g n : Nat) (p : Nat → Prop) (w : World) (h : Cur w p g) (hp : ∀ b, p b → b ≠ g) (h1 : 0 < n) (h2 : n ≤ 256) :
    Calls Tryz.prog 83 #[.pointer (some ⟨g, 0, none⟩), .int .i64 n] w fun e w' => ∃ r : Bool, e = .returned (.bool r) ∧ Drawn w w' p g := by
  go_enter Tryz.func83, Tryz.ntmps83
  go_wp2_with (go_at_call 53; refine (l1Below_any g n p w h hp h1 h2).mono ?_; rintro e w1 ⟨r, rfl, hr0, hd⟩)
  go_ret
  exact ⟨_, rfl, hd⟩

theorem l1PickInt_any (g n : Nat) (A : Option Addr) (c : Nat) (xs : List Int) (p q : Nat → Prop) (w : World) (h : Cur w p g) (hp : ∀ b, p b → b ≠ g) (hx : Sl w q 1 A n (ints xs)) (hq : ∀ b, q b → b ≠ g) (h1 : 0 < n) (h2 : n ≤ 256) :
    Calls Tryz.prog 54 #[.pointer (some ⟨g, 0, none⟩), .slice A n c] w fun e w' => ∃ x : Int, e = .returned (.int .i64 x) ∧ x ∈ xs ∧ Drawn w w' p g := by
  have hl := hx.len1
  go_enter Tryz.func54, Tryz.ntmps54
  go_wp2_with fail
  refine (l1Below_any g n p w h hp h1 h2).mono ?_
  rintro e w1 ⟨r, rfl, hr, hd⟩
  have hx1 : Sl w1 q 1 A n (ints xs) := hx.keep hd.1.size (fun b hb hlt => hd.1.block b hlt (fun e => hq b hb (by injection e)))
  obtain ⟨b, off, rfl, _, _, hc⟩ := hx1.int_at hr
  have hm : xs[r]?.getD 0 ∈ xs := by rw [List.getElem?_eq_getElem (by omega)]; exact List.getElem_mem _
  have hri : (r : Int) < (n : Int) := by omega
  generalize xs[r]?.getD 0 = x at *
  go_wp2
  go_ret
  exact ⟨x, rfl, hm, hd⟩
end Go.Proofs.YtmnhpbbapkcdjaaGreat

/- Walks: drawing a letter; the cursor's start. -/
namespace Go.Proofs.YtmnhpbbapkcdjaaGreat
open Go.RowKit

theorem Cur.keep {w w' : World} {p : Nat → Prop} {g : Nat} (h : Cur w p g) (hb : Below w.heap.size w w') : Cur w' p g := by
  obtain ⟨A, n, cap, i, hh, xs, hB, hS, hi⟩ := h
  exact ⟨A, n, cap, i, hh, xs, hB.below hb hB.lt, hS.below hb (fun b _ h => h), hi⟩
theorem Drawn.bel {w w1 w2 : World} {p : Nat → Prop} {g : Nat} (h : Drawn w w1 p g) (hb : Below w1.heap.size w1 w2) : Drawn w w2 p g :=
  ⟨grown_trans h.1 ⟨hb.os, hb.tape, hb.output, hb.size, fun k hk _ => hb.block k hk⟩, h.2.keep hb⟩
theorem Drawn.of {w w2 : World} {p : Nat → Prop} {g : Nat} (h : Cur w p g) (hb : Below w.heap.size w w2) : Drawn w w2 p g :=
  ⟨⟨hb.os, hb.tape, hb.output, hb.size, fun k hk _ => hb.block k hk⟩, h.keep hb⟩

set_option maxRecDepth 100000 in
theorem l2Draw_any (g : Nat) (p : Nat → Prop) (w : World) (h : Cur w p g) (hp : ∀ b, p b → b ≠ g) (hg : g < w.heap.size) :
    Calls Tryz.prog 65 #[.pointer (some ⟨g, 0, none⟩)] w fun e w' => ∃ x : Int, e = .returned (.int .i64 x) ∧ Drawn w w' p g := by
  go_enter Tryz.func65, Tryz.ntmps65
  go_wp2_with fail
  refine (l1Once_any g 14 p w h hp (by omega) (by omega)).mono ?_
  rintro e w1 ⟨r, rfl, hd⟩
  have hgs : g < w1.heap.size := Nat.lt_of_lt_of_le hg hd.1.size
  cases r with
  | true =>
    have hx : Sl (w1.alloc (.cells #[.int .i64 (-1), .int .i64 9, .int .i64 8, .int .i64 100] 3)) (· = w1.heap.size) 1 (some ⟨w1.heap.size, 0, none⟩) 4 (ints [-1, 9, 8, 100]) :=
      sl_new (p := (· = w1.heap.size)) (w := w1) (cs := #[.int .i64 (-1), .int .i64 9, .int .i64 8, .int .i64 100]) (t := 3) (n := 4) (size := 1) (g := w1.heap.size) rfl rfl (by decide) rfl
    go_wp2_with fail
    refine (l1PickInt_any g 4 _ _ _ p _ _ (hd.2.keep (below_alloc w1 _)) hp hx (fun b hb => by have hb : b = w1.heap.size := hb; omega) (by omega) (by omega)).mono ?_
    rintro e w2 ⟨x, rfl, _, hd2⟩
    go_wp2
    go_ret
    exact ⟨x, rfl, (hd.bel (below_alloc w1 _)).trans hd2⟩
  | false =>
    have hx : Sl (w1.alloc (.cells #[.int .i64 0, .int .i64 0, .int .i64 0, .int .i64 1, .int .i64 2, .int .i64 2, .int .i64 3, .int .i64 4, .int .i64 6, .int .i64 7] 3)) (· = w1.heap.size) 1 (some ⟨w1.heap.size, 0, none⟩) 10 (ints [0, 0, 0, 1, 2, 2, 3, 4, 6, 7]) :=
      sl_new (p := (· = w1.heap.size)) (w := w1) (cs := #[.int .i64 0, .int .i64 0, .int .i64 0, .int .i64 1, .int .i64 2, .int .i64 2, .int .i64 3, .int .i64 4, .int .i64 6, .int .i64 7]) (t := 3) (n := 10) (size := 1) (g := w1.heap.size) rfl rfl (by decide) rfl
    go_wp2_with fail
    refine (l1PickInt_any g 10 _ _ _ p _ _ (hd.2.keep (below_alloc w1 _)) hp hx (fun b hb => by have hb : b = w1.heap.size := hb; omega) (by omega) (by omega)).mono ?_
    rintro e w2 ⟨x, rfl, _, hd2⟩
    go_wp2
    go_ret
    exact ⟨x, rfl, (hd.bel (below_alloc w1 _)).trans hd2⟩

set_option maxRecDepth 100000 in
theorem l1New_any (A : Option Addr) (n c : Nat) (xs : List Int) (p : Nat → Prop) (w : World) (h : Sl w p 1 A n (byts xs)) :
    Calls Tryz.prog 26 #[.slice A n c] w fun e w' => e = .returned (.pointer (some ⟨w.heap.size, 0, none⟩)) ∧ Below w.heap.size w w' ∧ w.heap.size < w'.heap.size ∧ Cur w' p w.heap.size := by
  have hn : n ≤ 9223372036854775807 := by have := h.2.1; unfold maxLen at this; omega
  go_enter Tryz.func26, Tryz.ntmps26
  go_wp2_with fail
  go_loop [3, 4] (fun hv iv => ∃ (x : Int) (k : Nat), k ≤ n ∧ hv = .int .i64 x ∧ iv = .int .i64 k) (fun _ iv => n - (intOf iv).toNat)
  case atStart => exact ⟨_, 0, by omega, rfl, rfl⟩
  case round =>
    obtain ⟨x, k, hk, rfl, rfl⟩ := hrel
    by_cases hlt : k < n
    · obtain ⟨b, off, y, rfl, _, hb, hc⟩ := h.byte_at hlt
      have hki : (k : Int) < (n : Int) := by omega
      by_cases h4 : k < 4000
      · have h4i : (k : Int) < 4000 := by omega
        go_wp2
        go_round
        case rel => exact ⟨_, k + 1, by omega, rfl, by go_num⟩
        case measure => simp [intOf]; omega
      · have h4i : ¬ (k : Int) < 4000 := by omega
        go_wp2
        go_ret
        refine ⟨rfl, below_alloc _ _, by simp, ?_⟩
        exact ⟨_, n, c, 0, _, xs, Blk.new _ _ _, h.al _, by omega⟩
    · have hki : ¬ (k : Int) < (n : Int) := by omega
      go_wp2
      go_ret
      refine ⟨rfl, below_alloc _ _, by simp, ?_⟩
      exact ⟨_, n, c, 0, _, xs, Blk.new _ _ _, h.al _, by omega⟩
end Go.Proofs.YtmnhpbbapkcdjaaGreat

/- Tokens as data, how they lie in memory. Walk: l8Arity. -/
namespace Go.Proofs.YtmnhpbbapkcdjaaGreat
open Go.RowKit

structure Tk where
  k : Int
  l : Int
  lo : Int
  hi : Int
def Tk.cells (x : Tk) : List Value := [.int .i64 x.k, .int .i64 x.l, .int .i64 x.lo, .int .i64 x.hi]
def tks (L : List Tk) : List Value := L.flatMap Tk.cells
theorem tks_nil : tks [] = [] := rfl
theorem tks_app (L M : List Tk) : tks (L ++ M) = tks L ++ tks M := by simp [tks]
theorem tks_one (x : Tk) : tks [x] = x.cells := by simp [tks]
theorem tks_len (L : List Tk) : (tks L).length = L.length * 4 := by
  induction L with
  | nil => rfl
  | cons x L ih => simp [tks, List.flatMap_cons, Tk.cells] at ih ⊢; omega
theorem tks_at : ∀ (L : List Tk) (i j : Nat), i < L.length → j < 4 → (tks L)[i * 4 + j]? = (L[i]?.map Tk.cells).bind (·[j]?)
  | [], i, j, h, _ => by simp at h
  | x :: L, 0, j, _, hj => by
    simp only [tks, List.flatMap_cons, List.getElem?_cons_zero, Option.map_some, Option.bind_some, Nat.zero_mul, Nat.zero_add]
    rw [List.getElem?_append_left (by simp [Tk.cells]; omega)]
  | x :: L, i + 1, j, h, hj => by
    have ih := tks_at L i j (by simp at h; omega) hj
    simp only [tks, List.flatMap_cons, List.getElem?_cons_succ] at ih ⊢
    rw [List.getElem?_append_right (by simp [Tk.cells]; omega), show (i + 1) * 4 + j - x.cells.length = i * 4 + j by simp [Tk.cells]; omega]
    exact ih
theorem tks_one_cell (L : List Tk) : ∀ u ∈ tks L, u.oneCell' = true := by
  intro u hu
  obtain ⟨x, _, hx⟩ := List.mem_flatMap.1 hu
  simp [Tk.cells] at hx
  rcases hx with rfl | rfl | rfl | rfl <;> rfl
def tk0 : Tk := ⟨0, 0, 0, 0⟩
/-- The slice at A reads as the tokens L. -/
def Tks (w : World) (p : Nat → Prop) (A : Option Addr) (L : List Tk) : Prop := Sl w p 4 A L.length (tks L)
section
variable {w w' : World} {p q : Nat → Prop} {A : Option Addr} {L : List Tk}
theorem Tks.keep (h : Tks w p A L) (hw : w.heap.size ≤ w'.heap.size) (hk : ∀ b, p b → b < w.heap.size → w'.heap[b]? = w.heap[b]?) : Tks w' p A L := Sl.keep h hw hk
theorem Tks.weak (h : Tks w p A L) (hq : ∀ b, p b → b < w.heap.size → q b) : Tks w q A L := Sl.weak h hq
theorem Tks.below (h : Tks w p A L) (hb : Below w.heap.size w w') : Tks w' p A L := Sl.below h hb (fun _ _ h => h)
theorem Tks.al (h : Tks w p A L) (o : Obj) : Tks (w.alloc o) p A L := Sl.al h o
theorem Tks.drewN (h : Tks w p A L) (d : Nat) : Tks (w.drewN d) p A L := h
theorem Tks.le (h : Tks w p A L) : L.length ≤ maxLen := h.2.1
theorem Tks.at_ {k : Nat} (h : Tks w p A L) (hk : k < L.length) : ∃ b off, A = some ⟨b, off, none⟩ ∧ p b ∧ b < w.heap.size ∧
    w.cell? ⟨b, off + k * 4, none⟩ = some (.int .i64 (L[k]?.getD tk0).k) ∧ w.cell? ⟨b, off + k * 4 + 1, none⟩ = some (.int .i64 (L[k]?.getD tk0).l) ∧
    w.cell? ⟨b, off + k * 4 + 2, none⟩ = some (.int .i64 (L[k]?.getD tk0).lo) ∧ w.cell? ⟨b, off + k * 4 + 3, none⟩ = some (.int .i64 (L[k]?.getD tk0).hi) := by
  obtain ⟨b, off, rfl, hp, hb, hc⟩ := h.2.2 (by omega)
  have hx : L[k]?.getD tk0 = L[k] := by rw [List.getElem?_eq_getElem hk]; rfl
  have key : ∀ j, j < 4 → w.cell? ⟨b, off + (k * 4 + j), none⟩ = L[k].cells[j]? := fun j hj => by
    have h1 := tks_at L k j hk hj
    rw [List.getElem?_eq_getElem hk] at h1
    simp only [Option.map_some, Option.bind_some] at h1
    have h2 : ∃ u, L[k].cells[j]? = some u := ⟨_, List.getElem?_eq_getElem (by simp [Tk.cells]; omega)⟩
    obtain ⟨u, hu⟩ := h2
    rw [hu]; exact hc _ _ (h1.trans hu)
  rw [hx]
  refine ⟨b, off, rfl, hp, hb, key 0 (by omega), ?_, ?_, ?_⟩
  · have := key 1 (by omega); rw [← Nat.add_assoc] at this; exact this
  · have := key 2 (by omega); rw [← Nat.add_assoc] at this; exact this
  · have := key 3 (by omega); rw [← Nat.add_assoc] at this; exact this
theorem Tks.take_ (h : Tks w p A L) (k : Nat) (hk : k ≤ L.length) : Tks w p A (L.take k) := by
  refine ⟨by rw [tks_len], by have := h.le; simp; omega, fun hn => ?_⟩
  obtain ⟨b, off, rfl, hp, hb, hc⟩ := h.2.2 (by simp at hn; omega)
  refine ⟨b, off, rfl, hp, hb, fun j u hu => hc j u ?_⟩
  have e : tks L = tks (L.take k) ++ tks (L.drop k) := by rw [← tks_app, List.take_append_drop]
  rw [e, List.getElem?_append_left (List.getElem?_eq_some_iff.1 hu).1]; exact hu
theorem Tks.drop_ {b off : Nat} (h : Tks w p (some ⟨b, off, none⟩) L) (k : Nat) : Tks w p (some ⟨b, off + k * 4, none⟩) (L.drop k) := by
  refine ⟨by rw [tks_len], by have := h.le; simp; omega, fun hn => ?_⟩
  obtain ⟨b', off', he, hp, hb, hc⟩ := h.2.2 (by simp at hn; omega)
  injection he with he; injection he with e1 e2 _; subst e1 e2
  refine ⟨b, _, rfl, hp, hb, fun j u hu => ?_⟩
  have e : tks L = tks (L.take k) ++ tks (L.drop k) := by rw [← tks_app, List.take_append_drop]
  have hkl : k < L.length := by simp at hn; omega
  have := hc (k * 4 + j) u (by rw [e, List.getElem?_append_right (by rw [tks_len]; simp; omega), tks_len]; simp; rw [Nat.min_eq_left (by omega), Nat.add_sub_cancel_left]; exact hu)
  rw [← Nat.add_assoc] at this; exact this
end
theorem elTok : El Tryz.prog 64 89 (.agg #[.int .i64 0, .int .i64 0, .int .i64 0, .int .i64 0]) 4 32 := ⟨Tryz.underlying64, by kernel_rfl, rfl, by decide⟩

/-- the number of a token's operands, -1 of what is no token -/
def arI (t : Tk) : Int :=
  if t.k = 1 ∨ t.k = 2 then (if t.l = 0 ∧ t.lo = 0 ∧ t.hi = 0 then 0 else -1)
  else if t.k = 3 then (if isL t.l = true ∧ t.lo = 0 ∧ t.hi = 0 then 0 else -1)
  else if t.k = 4 ∨ t.k = 5 then (if t.l = 0 ∧ t.lo = 0 ∧ t.hi = 0 then 2 else -1)
  else if t.k = 6 then (if t.l = 0 ∧ t.lo = 0 ∧ t.hi = 0 then 1 else -1)
  else if t.k = 7 then (if t.l = 0 ∧ inB t.hi 1 3 = true ∧ inB t.lo 0 t.hi = true then 1 else -1)
  else -1
theorem arI_le (t : Tk) : -1 ≤ arI t ∧ arI t ≤ 2 := by
  unfold arI
  repeat' split
  all_goals omega
set_option maxRecDepth 100000 in
set_option maxHeartbeats 1000000 in
theorem l8Arity_any (k l lo hi : Int) (w : World) :
    Calls Tryz.prog 111 #[.agg #[.int .i64 k, .int .i64 l, .int .i64 lo, .int .i64 hi]] w fun e w' => e = .returned (.int .i64 (arI ⟨k, l, lo, hi⟩)) ∧ w.alloc (.cells #[.int .i64 k, .int .i64 l, .int .i64 lo, .int .i64 hi] 89) = w' := by
  by_cases hk1 : k = 1
  · subst hk1
    by_cases h1 : l = 0
    · subst h1
      by_cases h2 : lo = 0
      · subst h2
        by_cases h3 : hi = 0
        · subst h3
          go_enter Tryz.func111, Tryz.ntmps111; go_wp2; go_ret; exact ⟨ret_int (by simp [arI]), rfl⟩
        · go_enter Tryz.func111, Tryz.ntmps111; go_wp2; go_ret; exact ⟨ret_int (by simp [arI, h3]), rfl⟩
      · go_enter Tryz.func111, Tryz.ntmps111; go_wp2; go_ret; exact ⟨ret_int (by simp [arI, h2]), rfl⟩
    · go_enter Tryz.func111, Tryz.ntmps111; go_wp2; go_ret; exact ⟨ret_int (by simp [arI, h1]), rfl⟩
  by_cases hk2 : k = 2
  · subst hk2
    by_cases h1 : l = 0
    · subst h1
      by_cases h2 : lo = 0
      · subst h2
        by_cases h3 : hi = 0
        · subst h3
          go_enter Tryz.func111, Tryz.ntmps111; go_wp2; go_ret; exact ⟨ret_int (by simp [arI]), rfl⟩
        · go_enter Tryz.func111, Tryz.ntmps111; go_wp2; go_ret; exact ⟨ret_int (by simp [arI, h3]), rfl⟩
      · go_enter Tryz.func111, Tryz.ntmps111; go_wp2; go_ret; exact ⟨ret_int (by simp [arI, h2]), rfl⟩
    · go_enter Tryz.func111, Tryz.ntmps111; go_wp2; go_ret; exact ⟨ret_int (by simp [arI, h1]), rfl⟩
  by_cases hk4 : k = 4
  · subst hk4
    by_cases h1 : l = 0
    · subst h1
      by_cases h2 : lo = 0
      · subst h2
        by_cases h3 : hi = 0
        · subst h3
          go_enter Tryz.func111, Tryz.ntmps111; go_wp2; go_ret; exact ⟨ret_int (by simp [arI]), rfl⟩
        · go_enter Tryz.func111, Tryz.ntmps111; go_wp2; go_ret; exact ⟨ret_int (by simp [arI, h3]), rfl⟩
      · go_enter Tryz.func111, Tryz.ntmps111; go_wp2; go_ret; exact ⟨ret_int (by simp [arI, h2]), rfl⟩
    · go_enter Tryz.func111, Tryz.ntmps111; go_wp2; go_ret; exact ⟨ret_int (by simp [arI, h1]), rfl⟩
  by_cases hk5 : k = 5
  · subst hk5
    by_cases h1 : l = 0
    · subst h1
      by_cases h2 : lo = 0
      · subst h2
        by_cases h3 : hi = 0
        · subst h3
          go_enter Tryz.func111, Tryz.ntmps111; go_wp2; go_ret; exact ⟨ret_int (by simp [arI]), rfl⟩
        · go_enter Tryz.func111, Tryz.ntmps111; go_wp2; go_ret; exact ⟨ret_int (by simp [arI, h3]), rfl⟩
      · go_enter Tryz.func111, Tryz.ntmps111; go_wp2; go_ret; exact ⟨ret_int (by simp [arI, h2]), rfl⟩
    · go_enter Tryz.func111, Tryz.ntmps111; go_wp2; go_ret; exact ⟨ret_int (by simp [arI, h1]), rfl⟩
  by_cases hk6 : k = 6
  · subst hk6
    by_cases h1 : l = 0
    · subst h1
      by_cases h2 : lo = 0
      · subst h2
        by_cases h3 : hi = 0
        · subst h3
          go_enter Tryz.func111, Tryz.ntmps111; go_wp2; go_ret; exact ⟨ret_int (by simp [arI]), rfl⟩
        · go_enter Tryz.func111, Tryz.ntmps111; go_wp2; go_ret; exact ⟨ret_int (by simp [arI, h3]), rfl⟩
      · go_enter Tryz.func111, Tryz.ntmps111; go_wp2; go_ret; exact ⟨ret_int (by simp [arI, h2]), rfl⟩
    · go_enter Tryz.func111, Tryz.ntmps111; go_wp2; go_ret; exact ⟨ret_int (by simp [arI, h1]), rfl⟩
  by_cases hk3 : k = 3
  · subst hk3
    by_cases h1 : isL l = true
    · have h1' : isL l = true := h1
      by_cases h2 : lo = 0
      · subst h2
        by_cases h3 : hi = 0
        · subst h3
          go_enter Tryz.func111, Tryz.ntmps111; (go_wp2_with (go_at_call 34; refine (l2Letter_any l _).mono ?_; rintro e w' ⟨rfl, rfl⟩)); go_ret; exact ⟨ret_int (by simp [arI, h1]), rfl⟩
        · go_enter Tryz.func111, Tryz.ntmps111; (go_wp2_with (go_at_call 34; refine (l2Letter_any l _).mono ?_; rintro e w' ⟨rfl, rfl⟩)); go_ret; exact ⟨ret_int (by simp [arI, h3]), rfl⟩
      · go_enter Tryz.func111, Tryz.ntmps111; (go_wp2_with (go_at_call 34; refine (l2Letter_any l _).mono ?_; rintro e w' ⟨rfl, rfl⟩)); go_ret; exact ⟨ret_int (by simp [arI, h2]), rfl⟩
    · have h1' : isL l = false := by simpa using h1
      go_enter Tryz.func111, Tryz.ntmps111; (go_wp2_with (go_at_call 34; refine (l2Letter_any l _).mono ?_; rintro e w' ⟨rfl, rfl⟩)); go_ret; exact ⟨ret_int (by simp [arI, h1]), rfl⟩
  by_cases hk7 : k = 7
  · subst hk7
    by_cases h1 : l = 0
    · subst h1
      by_cases h2 : inB hi 1 3 = true
      · by_cases h3 : inB lo 0 hi = true
        · go_enter Tryz.func111, Tryz.ntmps111; (go_wp2_with (go_at_call 62; refine (l1In_any _ _ _ _).mono ?_; rintro e w' ⟨rfl, rfl⟩)); go_ret; exact ⟨ret_int (by simp [arI, h2, h3]), rfl⟩
        · have h3' : inB lo 0 hi = false := by simpa using h3
          go_enter Tryz.func111, Tryz.ntmps111; (go_wp2_with (go_at_call 62; refine (l1In_any _ _ _ _).mono ?_; rintro e w' ⟨rfl, rfl⟩)); go_ret; exact ⟨ret_int (by simp [arI, h3]), rfl⟩
      · have h2' : inB hi 1 3 = false := by simpa using h2
        go_enter Tryz.func111, Tryz.ntmps111; (go_wp2_with (go_at_call 62; refine (l1In_any _ _ _ _).mono ?_; rintro e w' ⟨rfl, rfl⟩)); go_ret; exact ⟨ret_int (by simp [arI, h2]), rfl⟩
    · go_enter Tryz.func111, Tryz.ntmps111; (go_wp2_with (go_at_call 62; refine (l1In_any _ _ _ _).mono ?_; rintro e w' ⟨rfl, rfl⟩)); go_ret; exact ⟨ret_int (by simp [arI, h1]), rfl⟩
  go_enter Tryz.func111, Tryz.ntmps111; go_wp2; go_ret; exact ⟨ret_int (by simp [arI, hk1, hk2, hk3, hk4, hk5, hk6, hk7]), rfl⟩
end Go.Proofs.YtmnhpbbapkcdjaaGreat

/- Tokens as trees (plain); walks: IsExpr, IsValidExpr, l8Start. -/
namespace Go.Proofs.YtmnhpbbapkcdjaaGreat
open Go.RowKit

/-- how many operands wait behind the tokens; none: a token lacks its operands -/
def depthR : List Tk → Int → Option Int
  | [], d => some d
  | t :: L, d => if arI t < 0 ∨ d < arI t then none else depthR L (d - arI t + 1)
def isExB (L : List Tk) : Bool := depthR L 0 == some 1
inductive Tr where
  | lf (t : Tk)
  | un (a : Tr) (t : Tk)
  | bi (a b : Tr) (t : Tk)
def Tr.flat : Tr → List Tk
  | .lf t => [t]
  | .un a t => a.flat ++ [t]
  | .bi a b t => a.flat ++ b.flat ++ [t]
def Tr.Ok : Tr → Prop
  | .lf t => arI t = 0
  | .un a t => a.Ok ∧ arI t = 1
  | .bi a b t => a.Ok ∧ b.Ok ∧ arI t = 2
def flats (ts : List Tr) : List Tk := ts.flatMap Tr.flat
theorem flats_app (a b : List Tr) : flats (a ++ b) = flats a ++ flats b := by simp [flats]
theorem flats_one (a : Tr) : flats [a] = a.flat := by simp [flats]
theorem Tr.flat_pos (a : Tr) : 0 < a.flat.length := by cases a <;> simp [Tr.flat] <;> omega
theorem flats_len : ∀ ts : List Tr, ts.length ≤ (flats ts).length
  | [] => by simp
  | a :: ts => by
    have := flats_len ts
    have := a.flat_pos
    simp [flats] at *
    omega
theorem depthR_tree : ∀ (L : List Tk) (ts : List Tr) (m : Int), (∀ a ∈ ts, a.Ok) → depthR L ts.length = some m → ∃ ts' : List Tr, (ts'.length : Int) = m ∧ (∀ a ∈ ts', a.Ok) ∧ flats ts ++ L = flats ts'
  | [], ts, m, hok, h => ⟨ts, by simpa [depthR] using h, hok, by simp⟩
  | t :: L, ts, m, hok, h => by
    unfold depthR at h
    split at h
    · cases h
    · rename_i hn
      have hle := arI_le t
      have hcase : arI t = 0 ∨ arI t = 1 ∨ arI t = 2 := by omega
      rcases hcase with h0 | h0 | h0
      · obtain ⟨ts', h1, h2, h3⟩ := depthR_tree L (ts ++ [.lf t]) m (fun a ha => by
          rcases List.mem_append.1 ha with ha | ha
          · exact hok a ha
          · simp at ha; subst ha; exact h0) (by rw [h0] at h; simpa using h)
        exact ⟨ts', h1, h2, by rw [← h3, flats_app, flats_one]; simp [Tr.flat]⟩
      · have hne : ts ≠ [] := fun e => by subst e; simp at hn; omega
        obtain ⟨ts0, a, rfl⟩ : ∃ ts0 a, ts = ts0 ++ [a] := ⟨ts.dropLast, ts.getLast hne, (List.dropLast_concat_getLast hne).symm⟩
        obtain ⟨ts', h1, h2, h3⟩ := depthR_tree L (ts0 ++ [.un a t]) m (fun x hx => by
          rcases List.mem_append.1 hx with hx | hx
          · exact hok x (by simp [hx])
          · simp at hx; subst hx; exact ⟨hok a (by simp), h0⟩) (by rw [h0] at h; simpa using h)
        exact ⟨ts', h1, h2, by rw [← h3]; simp [flats_app, flats_one, Tr.flat]⟩
      · have hlen : 2 ≤ ts.length := by omega
        have hne : ts ≠ [] := fun e => by subst e; simp at hlen
        obtain ⟨ts1, b, rfl⟩ : ∃ ts0 a, ts = ts0 ++ [a] := ⟨ts.dropLast, ts.getLast hne, (List.dropLast_concat_getLast hne).symm⟩
        have hne1 : ts1 ≠ [] := fun e => by subst e; simp at hlen
        obtain ⟨ts0, a, rfl⟩ : ∃ ts0 a, ts1 = ts0 ++ [a] := ⟨ts1.dropLast, ts1.getLast hne1, (List.dropLast_concat_getLast hne1).symm⟩
        obtain ⟨ts', h1, h2, h3⟩ := depthR_tree L (ts0 ++ [.bi a b t]) m (fun x hx => by
          rcases List.mem_append.1 hx with hx | hx
          · exact hok x (by simp [hx])
          · simp at hx; subst hx; exact ⟨hok a (by simp), hok b (by simp), h0⟩) (by
            rw [h0] at h
            have e : (((ts0 ++ [a] ++ [b]).length : Nat) : Int) - 2 + 1 = (((ts0 ++ [Tr.bi a b t]).length : Nat) : Int) := by simp
            rw [e] at h; exact h)
        exact ⟨ts', h1, h2, by rw [← h3]; simp [flats, Tr.flat]⟩
theorem isExB_tree {L : List Tk} (h : isExB L = true) : ∃ a : Tr, a.Ok ∧ L = a.flat := by
  unfold isExB at h
  obtain ⟨ts, h1, h2, h3⟩ := depthR_tree L [] 1 (by simp) (by simpa using h)
  match ts, h1 with
  | [a], _ => exact ⟨a, h2 a (by simp), by simpa [flats] using h3⟩
  | [], h1 => simp at h1
  | _ :: _ :: _, h1 => simp at h1; omega
theorem depthR_fail {t : Tk} {L : List Tk} {d : Int} (h : arI t < 0 ∨ d < arI t) : depthR (t :: L) d = none := by unfold depthR; rw [if_pos h]
theorem depthR_next {t : Tk} {L : List Tk} {d : Int} (h : ¬ (arI t < 0 ∨ d < arI t)) : depthR (t :: L) d = depthR L (d - arI t + 1) := by rw [depthR, if_neg h]
theorem drop_tk {L : List Tk} {k : Nat} (h : k < L.length) : L.drop k = (L[k]?.getD tk0) :: L.drop (k + 1) := by
  rw [List.drop_eq_getElem_cons h, List.getElem?_eq_getElem h]; rfl

set_option maxRecDepth 100000 in
theorem IsExpr_any (L : List Tk) (A : Option Addr) (c : Nat) (p : Nat → Prop) (w : World) (h : Tks w p A L) :
    Calls Tryz.prog 109 #[.agg #[.slice A L.length c]] w fun e w' => e = .returned (.bool (isExB L)) ∧ Below w.heap.size w w' := by
  have hm := h.le
  unfold maxLen at hm
  have hB := Blk.new w 66 #[.slice A L.length c]
  have hW := below_alloc w (.cells #[.slice A L.length c] 66)
  have hT := h.al (.cells #[.slice A L.length c] 66)
  obtain ⟨w1, hw1⟩ : ∃ w1, w1 = w.alloc (.cells #[.slice A L.length c] 66) := ⟨_, rfl⟩
  rw [← hw1] at hB hW hT
  have hs1 : w1.heap.size = w.heap.size + 1 := by rw [hw1, size_alloc]
  go_enter Tryz.func109, Tryz.ntmps109
  go_wp2_with fail
  go_loopw [3, 4] (fun dv iv wr => ∃ (k : Nat) (d : Int), k ≤ L.length ∧ 0 ≤ d ∧ d ≤ k ∧ dv = .int .i64 d ∧ iv = .int .i64 k ∧ Hid (depthR L 0 = depthR (L.drop k) d) ∧ Below w1.heap.size w1 wr) (fun _ iv _ => L.length - (intOf iv).toNat)
  case atStart => exact ⟨0, 0, by omega, by omega, by omega, rfl, rfl, Lib.hid rfl, by rw [hw1]; exact Below.refl _ _⟩
  case round =>
    clear hw1
    obtain ⟨k, d, hk, hd0, hdk, rfl, rfl, HF, hb⟩ := hrel
    have f0 := (hB.below hb hB.lt).cell 0
    simp at f0
    have hTr := hT.below hb
    have hbw := hW.trans (hb.mono (by omega))
    by_cases hlt : k < L.length
    · have HS := Lib.hid (drop_tk hlt)
      obtain ⟨b, off, rfl, _, _, c0, c1, c2, c3⟩ := hTr.at_ hlt
      have hii : (k : Int) < (L.length : Int) := by omega
      have hbd := arI_le (L[k]?.getD tk0)
      generalize L[k]?.getD tk0 = t at *
      obtain ⟨k0, l0, lo0, hi0⟩ := t
      simp only at c0 c1 c2 c3
      by_cases h1 : arI ⟨k0, l0, lo0, hi0⟩ < 0
      · have HE : Hid (isExB L = false) := Lib.hid (by unfold isExB; rw [HF.out, HS.out, depthR_fail (.inl h1)]; rfl)
        go_wp2_with (go_at_call 111; refine (l8Arity_any _ _ _ _ _).mono ?_; rintro e w2 ⟨rfl, rfl⟩)
        go_ret
        exact ⟨by rw [HE.out]; rfl, hbw.trans ((below_alloc _ _).mono (by have := hb.size; omega))⟩
      · by_cases h2 : d < arI ⟨k0, l0, lo0, hi0⟩
        · have HE : Hid (isExB L = false) := Lib.hid (by unfold isExB; rw [HF.out, HS.out, depthR_fail (.inr h2)]; rfl)
          go_wp2_with (go_at_call 111; refine (l8Arity_any _ _ _ _ _).mono ?_; rintro e w2 ⟨rfl, rfl⟩)
          go_ret
          exact ⟨by rw [HE.out]; rfl, hbw.trans ((below_alloc _ _).mono (by have := hb.size; omega))⟩
        · have HE : Hid (depthR L 0 = depthR (L.drop (k + 1)) (d - arI ⟨k0, l0, lo0, hi0⟩ + 1)) := Lib.hid (by rw [HF.out, HS.out, depthR_next (by omega)])
          go_wp2_with (go_at_call 111; refine (l8Arity_any _ _ _ _ _).mono ?_; rintro e w2 ⟨rfl, rfl⟩)
          go_roundw
          case rel => exact ⟨k + 1, _, by omega, by omega, by omega, by go_num, by go_num, HE, hb.trans ((below_alloc _ _).mono (by have := hb.size; omega))⟩
          case measure => simp [intOf]; omega
    · have HE : Hid (isExB L = (d == 1)) := Lib.hid (by unfold isExB; rw [HF.out, List.drop_eq_nil_of_le (by omega)]; simp [depthR])
      go_wp2
      go_ret
      exact ⟨by rw [HE.out]; rfl, hbw⟩
theorem IsValidExpr_any (L : List Tk) (A : Option Addr) (c : Nat) (p : Nat → Prop) (w : World) (h : Tks w p A L) :
    Calls Tryz.prog 92 #[.agg #[.slice A L.length c]] w fun e w' => e = .returned (.bool (decide (L.length ≤ 24) && isExB L)) ∧ Below w.heap.size w w' := by
  have hm := h.le
  unfold maxLen at hm
  have hT := h.al (.cells #[.slice A L.length c] 66)
  have hB := Blk.new w 66 #[.slice A L.length c]
  have f0 := hB.cell 0
  simp at f0
  by_cases hl : L.length ≤ 24
  · have hli : (L.length : Int) ≤ 24 := by omega
    go_enter Tryz.func92, Tryz.ntmps92
    go_wp2_with (go_at_call 109; refine (IsExpr_any L A c p _ hT).mono ?_; rintro e w2 ⟨rfl, hb⟩)
    go_ret
    exact ⟨ret_bool (by simp [hl]), (below_alloc w _).trans (hb.mono (by simp))⟩
  · have hli : ¬ (L.length : Int) ≤ 24 := by omega
    go_enter Tryz.func92, Tryz.ntmps92
    go_wp2_with fail
    go_ret
    exact ⟨ret_bool (by simp [hl]), below_alloc w _⟩

set_option maxRecDepth 100000 in
theorem l8Start_any (pre : List Tk) (a : Tr) (ha : a.Ok) (n : Nat) (A : Option Addr) (c : Nat) (p : Nat → Prop) (w : World) (h : Tks w p A (pre ++ a.flat)) (hn : n = (pre ++ a.flat).length) (hsz : (pre ++ a.flat).length ≤ 9000000000000000000) :
    Calls Tryz.prog 95 #[.slice A n c] w fun e w' => e = .returned (.int .i64 pre.length) ∧ Below w.heap.size w w' := by
  subst hn
  have hm : (pre ++ a.flat).length ≤ 9000000000000000000 := hsz
  obtain ⟨L, hL⟩ : ∃ L, L = pre ++ a.flat := ⟨_, rfl⟩
  rw [← hL] at h hm ⊢
  have H0 : Hid (L.take L.length = pre ++ flats [a]) := Lib.hid (by rw [List.take_length, hL, flats_one])
  clear hL
  go_enter Tryz.func95, Tryz.ntmps95
  go_wp2_with fail
  go_loopw [3, 4] (fun nv kv wr => ∃ (ts : List Tr) (k : Nat), k ≤ L.length ∧ nv = .int .i64 ts.length ∧ kv = .int .i64 k ∧ Hid (∀ x ∈ ts, x.Ok) ∧ Hid (L.take k = pre ++ flats ts) ∧ Below w.heap.size w wr) (fun _ kv _ => (intOf kv).toNat)
  case atStart => exact ⟨[a], L.length, by omega, rfl, rfl, Lib.hid (by simpa using ha), H0, Below.refl _ _⟩
  case round =>
    obtain ⟨ts, k, hk, rfl, rfl, HO, HT, hb⟩ := hrel
    have hTr := h.below hb
    by_cases hlt : 0 < ts.length
    · have hlti : (0 : Int) < (ts.length : Int) := by omega
      have hne : ts ≠ [] := fun e => by subst e; simp at hlt
      obtain ⟨ts0, x, rfl⟩ : ∃ ts0 a, ts = ts0 ++ [a] := ⟨ts.dropLast, ts.getLast hne, (List.dropLast_concat_getLast hne).symm⟩
      have hflen := congrArg List.length HT.out
      have hxp := x.flat_pos
      have hts0 := flats_len ts0
      simp [flats_app, flats_one, Nat.min_eq_left hk] at hflen
      obtain ⟨j, rfl⟩ : ∃ j, k = j + 1 := ⟨k - 1, by omega⟩
      obtain ⟨b, off, rfl, _, _, c0, c1, c2, c3⟩ := hTr.at_ (k := j) (by omega)
      have hsplit : L.take (j + 1) = L.take j ++ [L[j]?.getD tk0] := by
        rw [List.take_succ_eq_append_getElem (by omega), List.getElem?_eq_getElem (by omega)]; rfl
      have hx := HO.out x (by simp)
      have key : ∃ ts' : List Tr, (ts'.length : Int) = (ts0.length : Int) + arI (L[j]?.getD tk0) ∧ (∀ y ∈ ts', y.Ok) ∧ L.take j = pre ++ flats ts' := by
        have hT := HT.out
        rw [hsplit, flats_app, flats_one, ← List.append_assoc] at hT
        have hO0 : ∀ y ∈ ts0, y.Ok := fun y hy => HO.out y (by simp [hy])
        cases x with
        | lf t =>
          obtain ⟨e1, e2⟩ := List.append_inj' hT (by simp [Tr.flat])
          simp [Tr.flat] at e2
          exact ⟨ts0, by rw [e2]; have : arI t = 0 := hx; omega, hO0, e1⟩
        | un y t =>
          rw [show (Tr.un y t).flat = y.flat ++ [t] from rfl, ← List.append_assoc] at hT
          obtain ⟨e1, e2⟩ := List.append_inj' hT (by simp)
          simp at e2
          obtain ⟨hy, ht⟩ := hx
          exact ⟨ts0 ++ [y], by rw [e2, ht]; simp, fun z hz => by rcases List.mem_append.1 hz with hz | hz; exact hO0 z hz; (simp at hz; subst hz; exact hy), by rw [e1, flats_app, flats_one, List.append_assoc]⟩
        | bi y z t =>
          rw [show (Tr.bi y z t).flat = y.flat ++ z.flat ++ [t] from rfl, ← List.append_assoc] at hT
          obtain ⟨e1, e2⟩ := List.append_inj' hT (by simp)
          simp at e2
          obtain ⟨hy, hz, ht⟩ := hx
          exact ⟨ts0 ++ [y, z], by rw [e2, ht]; simp, fun u hu => by rcases List.mem_append.1 hu with hu | hu; exact hO0 u hu; (simp at hu; rcases hu with rfl | rfl; exact hy; exact hz), by rw [e1]; simp [flats]⟩
      have HK := Lib.hid key
      have hbd := arI_le (L[j]?.getD tk0)
      have htl : (ts0.length : Int) ≤ 9223372036854775800 := by omega
      clear key hx hsplit hflen hne hlt
      generalize L[j]?.getD tk0 = t at *
      obtain ⟨k0, l0, lo0, hi0⟩ := t
      simp only at c0 c1 c2 c3
      have hjl : (j : Int) < (L.length : Int) := by omega
      go_wp2_with (go_at_call 111; refine (l8Arity_any _ _ _ _ _).mono ?_; rintro e w2 ⟨rfl, rfl⟩)
      obtain ⟨ts', h1, h2, h3⟩ := HK.out
      have hlx : (ts0 ++ [x]).length = ts0.length + 1 := by simp
      go_roundw
      case rel => exact ⟨ts', j, by omega, by rw [h1], by go_num, Lib.hid h2, Lib.hid h3, hb.trans ((below_alloc _ _).mono hb.size)⟩
      case measure => simp [intOf]
    · have hlti : ¬ (0 : Int) < (ts.length : Int) := by omega
      obtain rfl : ts = [] := by cases ts with | nil => rfl | cons _ _ => simp at hlt
      have hl := congrArg List.length HT.out
      simp [flats, Nat.min_eq_left hk] at hl
      subst hl
      clear hlt hlti
      go_wp2
      go_ret
      exact ⟨rfl, hb⟩
end Go.Proofs.YtmnhpbbapkcdjaaGreat
