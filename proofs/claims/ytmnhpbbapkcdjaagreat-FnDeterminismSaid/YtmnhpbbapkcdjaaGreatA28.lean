/- Walks: two automata of the same words are found equivalent. No condition. -/
import Derived.Test.YtmnhpbbapkcdjaaGreatA27

/- Walks: two automata of the same words are found equivalent. -/
namespace Go.Proofs.YtmnhpbbapkcdjaaGreat
open Go.RowKit

set_option maxRecDepth 100000 in
theorem missing_any (a b : Aut) (Q : Int → Int → Prop) (va vb : Value) (w : World) (p q : Nat → Prop) (ha : AutV w p va a) (hb : AutV w q vb b) (hva : validB a = true) (hvb : validB b = true) (hQ : Bis a b Q) (h0 : Q a.start b.start) :
    Calls Tryz.prog 79 #[va, vb] w fun e w' => ∃ v, e = .returned (.tuple #[v, .bool false]) ∧ Below w.heap.size w w' := by
  obtain ⟨A1, n1, c1, A2, n2, c2, rfl, _, _⟩ := id ha
  obtain ⟨B1, m1, d1, B2, m2, d2, rfl, _, _⟩ := id hb
  have oka := validB_iff.1 hva
  have okb := validB_iff.1 hvb
  have hPa := (ha.alloc (.cells #[.int .i64 a.start, .slice A1 n1 c1, .slice A2 n2 c2] 31)).alloc (.cells #[.int .i64 b.start, .slice B1 m1 d1, .slice B2 m2 d2] 31)
  have hPb := (hb.alloc (.cells #[.int .i64 a.start, .slice A1 n1 c1, .slice A2 n2 c2] 31)).alloc (.cells #[.int .i64 b.start, .slice B1 m1 d1, .slice B2 m2 d2] 31)
  have hBa := (Blk.new w 31 #[.int .i64 a.start, .slice A1 n1 c1, .slice A2 n2 c2]).alloc (.cells #[.int .i64 b.start, .slice B1 m1 d1, .slice B2 m2 d2] 31)
  have hBb : Blk ((w.alloc (.cells #[.int .i64 a.start, .slice A1 n1 c1, .slice A2 n2 c2] 31)).alloc (.cells #[.int .i64 b.start, .slice B1 m1 d1, .slice B2 m2 d2] 31)) (w.heap.size + 1) 31 #[.int .i64 b.start, .slice B1 m1 d1, .slice B2 m2 d2] := by
    have := Blk.new (w.alloc (.cells #[.int .i64 a.start, .slice A1 n1 c1, .slice A2 n2 c2] 31)) 31 #[.int .i64 b.start, .slice B1 m1 d1, .slice B2 m2 d2]
    rwa [size_alloc] at this
  have hW := below_alloc2 w (.cells #[.int .i64 a.start, .slice A1 n1 c1, .slice A2 n2 c2] 31) (.cells #[.int .i64 b.start, .slice B1 m1 d1, .slice B2 m2 d2] 31)
  go_enter Tryz.func79, Tryz.ntmps79
  go_wp2_with fail
  have hv := specValid_any a _ _ p hPa
  rw [hva] at hv
  refine hv.mono ?_; rintro e w1 ⟨rfl, hb1⟩
  have hBa1 := hBa.below hb1 hBa.lt
  have hBb1 := hBb.below hb1 hBb.lt
  have hPa1 := hPa.below hb1
  have hPb1 := hPb.below hb1
  have f0 := hBb1.cell 0; have f1 := hBb1.cell 1; have f2 := hBb1.cell 2
  simp at f0 f1 f2
  go_wp2_with fail
  have hv2 := specValid_any b _ _ q hPb1
  rw [hvb] at hv2
  refine hv2.mono ?_; rintro e w2 ⟨rfl, hb2⟩
  clear f0 f1 f2
  have hBa2 := hBa1.below hb2 hBa1.lt
  have hBb2 := hBb1.below hb2 hBb1.lt
  have hPa2 := hPa1.below hb2
  have hPb2 := hPb1.below hb2
  have f0 := hBb2.cell 0; have f1 := hBb2.cell 1; have f2 := hBb2.cell 2
  have g0 := hBa2.cell 0; have g1 := hBa2.cell 1; have g2 := hBa2.cell 2
  simp at f0 f1 f2 g0 g1 g2
  have hs1 := hb1.size
  have hbz := (hW.trans (hb1.mono (by simp; omega))).trans (hb2.mono (by simp at hs1; omega))
  have hs2 := hb2.size
  go_wp2_with fail
  refine (l12Differ_any a b Q a.start b.start _ _ w2 p q hPa2 hPb2 oka.2 okb.2 (by omega) (by omega) hQ h0).mono ?_
  rintro e w3 ⟨v, rfl, hb3⟩
  go_wp2
  go_ret2
  exact ⟨v, rfl, hbz.trans (hb3.mono (by simp at hs1; omega))⟩

set_option maxRecDepth 100000 in
theorem includes_any (a b : Aut) (Q : Int → Int → Prop) (va vb : Value) (w : World) (p q : Nat → Prop) (ha : AutV w p va a) (hb : AutV w q vb b) (hva : validB a = true) (hvb : validB b = true) (hQ : Bis a b Q) (h0 : Q a.start b.start) :
    Calls Tryz.prog 48 #[va, vb] w fun e w' => e = .returned (.bool true) ∧ Below w.heap.size w w' := by
  obtain ⟨A1, n1, c1, A2, n2, c2, rfl, _, _⟩ := id ha
  obtain ⟨B1, m1, d1, B2, m2, d2, rfl, _, _⟩ := id hb
  have hPa := (ha.alloc (.cells #[.int .i64 a.start, .slice A1 n1 c1, .slice A2 n2 c2] 31)).alloc (.cells #[.int .i64 b.start, .slice B1 m1 d1, .slice B2 m2 d2] 31)
  have hPb := (hb.alloc (.cells #[.int .i64 a.start, .slice A1 n1 c1, .slice A2 n2 c2] 31)).alloc (.cells #[.int .i64 b.start, .slice B1 m1 d1, .slice B2 m2 d2] 31)
  have hBa := (Blk.new w 31 #[.int .i64 a.start, .slice A1 n1 c1, .slice A2 n2 c2]).alloc (.cells #[.int .i64 b.start, .slice B1 m1 d1, .slice B2 m2 d2] 31)
  have hBb : Blk ((w.alloc (.cells #[.int .i64 a.start, .slice A1 n1 c1, .slice A2 n2 c2] 31)).alloc (.cells #[.int .i64 b.start, .slice B1 m1 d1, .slice B2 m2 d2] 31)) (w.heap.size + 1) 31 #[.int .i64 b.start, .slice B1 m1 d1, .slice B2 m2 d2] := by
    have := Blk.new (w.alloc (.cells #[.int .i64 a.start, .slice A1 n1 c1, .slice A2 n2 c2] 31)) 31 #[.int .i64 b.start, .slice B1 m1 d1, .slice B2 m2 d2]
    rwa [size_alloc] at this
  have hW := below_alloc2 w (.cells #[.int .i64 a.start, .slice A1 n1 c1, .slice A2 n2 c2] 31) (.cells #[.int .i64 b.start, .slice B1 m1 d1, .slice B2 m2 d2] 31)
  go_enter Tryz.func48, Tryz.ntmps48
  go_wp2_with fail
  refine (missing_any a b Q _ _ _ p q hPa hPb hva hvb hQ h0).mono ?_
  rintro e w1 ⟨v, rfl, hb1⟩
  have hBa1 := hBa.below hb1 hBa.lt
  have hBb1 := hBb.below hb1 hBb.lt
  have hPa1 := hPa.below hb1
  have hPb1 := hPb.below hb1
  have g0 := hBa1.cell 0; have g1 := hBa1.cell 1; have g2 := hBa1.cell 2
  simp at g0 g1 g2
  have hs1 := hb1.size
  go_wp2_with fail
  have hv := specValid_any a _ _ p hPa1
  rw [hva] at hv
  refine hv.mono ?_; rintro e w2 ⟨rfl, hb2⟩
  have hBb2 := hBb1.below hb2 hBb1.lt
  have hPb2 := hPb1.below hb2
  have f0 := hBb2.cell 0; have f1 := hBb2.cell 1; have f2 := hBb2.cell 2
  simp at f0 f1 f2
  have hs2 := hb2.size
  go_wp2_with fail
  have hv2 := specValid_any b _ _ q hPb2
  rw [hvb] at hv2
  refine hv2.mono ?_; rintro e w3 ⟨rfl, hb3⟩
  go_wp2
  go_ret
  exact ⟨rfl, ((hW.trans (hb1.mono (by simp; omega))).trans (hb2.mono (by simp at hs1; omega))).trans (hb3.mono (by simp at hs1; omega))⟩

theorem Bis.symm {a b : Aut} {Q : Int → Int → Prop} (h : Bis a b Q) : Bis b a (fun x y => Q y x) :=
  ⟨fun x y hq => by have := h.lo _ _ hq; omega, fun x y hq => (h.acc _ _ hq).symm, fun x y k hq hk => h.nx _ _ k hq hk⟩

set_option maxRecDepth 100000 in
theorem equiv_any (a b : Aut) (Q : Int → Int → Prop) (va vb : Value) (w : World) (p q : Nat → Prop) (ha : AutV w p va a) (hb : AutV w q vb b) (hva : validB a = true) (hvb : validB b = true) (hQ : Bis a b Q) (h0 : Q a.start b.start) :
    Calls Tryz.prog 23 #[va, vb] w fun e w' => e = .returned (.bool true) ∧ Below w.heap.size w w' := by
  obtain ⟨A1, n1, c1, A2, n2, c2, rfl, _, _⟩ := id ha
  obtain ⟨B1, m1, d1, B2, m2, d2, rfl, _, _⟩ := id hb
  have hPa := (ha.alloc (.cells #[.int .i64 a.start, .slice A1 n1 c1, .slice A2 n2 c2] 31)).alloc (.cells #[.int .i64 b.start, .slice B1 m1 d1, .slice B2 m2 d2] 31)
  have hPb := (hb.alloc (.cells #[.int .i64 a.start, .slice A1 n1 c1, .slice A2 n2 c2] 31)).alloc (.cells #[.int .i64 b.start, .slice B1 m1 d1, .slice B2 m2 d2] 31)
  have hBa := (Blk.new w 31 #[.int .i64 a.start, .slice A1 n1 c1, .slice A2 n2 c2]).alloc (.cells #[.int .i64 b.start, .slice B1 m1 d1, .slice B2 m2 d2] 31)
  have hBb : Blk ((w.alloc (.cells #[.int .i64 a.start, .slice A1 n1 c1, .slice A2 n2 c2] 31)).alloc (.cells #[.int .i64 b.start, .slice B1 m1 d1, .slice B2 m2 d2] 31)) (w.heap.size + 1) 31 #[.int .i64 b.start, .slice B1 m1 d1, .slice B2 m2 d2] := by
    have := Blk.new (w.alloc (.cells #[.int .i64 a.start, .slice A1 n1 c1, .slice A2 n2 c2] 31)) 31 #[.int .i64 b.start, .slice B1 m1 d1, .slice B2 m2 d2]
    rwa [size_alloc] at this
  have hW := below_alloc2 w (.cells #[.int .i64 a.start, .slice A1 n1 c1, .slice A2 n2 c2] 31) (.cells #[.int .i64 b.start, .slice B1 m1 d1, .slice B2 m2 d2] 31)
  go_enter Tryz.func23, Tryz.ntmps23
  go_wp2_with fail
  refine (includes_any a b Q _ _ _ p q hPa hPb hva hvb hQ h0).mono ?_
  rintro e w1 ⟨rfl, hb1⟩
  have hBa1 := hBa.below hb1 hBa.lt
  have hBb1 := hBb.below hb1 hBb.lt
  have hPa1 := hPa.below hb1
  have hPb1 := hPb.below hb1
  have f0 := hBb1.cell 0; have f1 := hBb1.cell 1; have f2 := hBb1.cell 2
  have g0 := hBa1.cell 0; have g1 := hBa1.cell 1; have g2 := hBa1.cell 2
  simp at f0 f1 f2 g0 g1 g2
  have hs1 := hb1.size
  go_wp2_with fail
  refine (includes_any b a _ _ _ _ q p hPb1 hPa1 hvb hva hQ.symm h0).mono ?_
  rintro e w2 ⟨rfl, hb2⟩
  go_wp2
  go_ret
  exact ⟨rfl, (hW.trans (hb1.mono (by simp; omega))).trans (hb2.mono (by simp at hs1; omega))⟩
end Go.Proofs.YtmnhpbbapkcdjaaGreat
