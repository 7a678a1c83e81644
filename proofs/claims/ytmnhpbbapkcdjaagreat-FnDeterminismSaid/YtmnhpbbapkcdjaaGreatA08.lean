/- Walks: two automata whose pairs of states never differ. No condition. -/
import Derived.Test.YtmnhpbbapkcdjaaGreatA07

/- Walks: two automata whose pairs of states never differ. -/
namespace Go.Proofs.YtmnhpbbapkcdjaaGreat
open Go.RowKit

section
variable {P : Program} {ops : Array Oper} {Q : Exit → Act → World → Prop} {md : Region.Mode} {S : World → Prop} {L : Nat}
theorem wpX_two {i j : Nat} {oi oj : Oper} {fuel : Nat} {listed : Array Bool} {a : Act} {w : World} (hr : Region.ready md ops listed = [i, j]) (hi : ops[i]? = some oi) (hj : ops[j]? = some oj)
    (h : ∀ K : Act → World → Prop, Shut (∀ a w, (i = L ∨ S w) → wpAnyX P md ops Q S L fuel (listed.setIfInBounds i true) a w → K a w) → if Region.wanted oi (yielded ops a.tmps) = true then Oper.wp P oi a w K Q else K (a.put oi.dst undef) w)
    (h' : ∀ K : Act → World → Prop, Shut (∀ a w, (j = L ∨ S w) → wpAnyX P md ops Q S L fuel (listed.setIfInBounds j true) a w → K a w) → if Region.wanted oj (yielded ops a.tmps) = true then Oper.wp P oj a w K Q else K (a.put oj.dst undef) w) :
    wpAnyX P md ops Q S L (fuel + 1) listed a w := by
  have step : ∀ (m : Nat) (om : Oper), ops[m]? = some om → (∀ K : Act → World → Prop, Shut (∀ a w, (m = L ∨ S w) → wpAnyX P md ops Q S L fuel (listed.setIfInBounds m true) a w → K a w) → if Region.wanted om (yielded ops a.tmps) = true then Oper.wp P om a w K Q else K (a.put om.dst undef) w) →
      wpOp P ops Q m (fun a' w' => (m = L ∨ S w') ∧ wpAnyX P md ops Q S L fuel (listed.setIfInBounds m true) a' w') a w := by
    intro m om hm h
    have h1 := h (fun a' w' => (m = L ∨ S w') ∧ wpAnyX P md ops Q S L fuel (listed.setIfInBounds m true) a' w') (fun a w h1 h2 => ⟨h1, h2⟩)
    unfold wpOp
    simp only [hm]
    split
    · rename_i hw
      rw [if_pos hw] at h1
      exact .inl h1
    · rename_i hw
      rw [if_neg hw] at h1
      exact h1
  refine ⟨fun h0 => (by rw [h0] at hr; cases hr), fun m hm => ?_⟩
  rw [hr] at hm
  rcases List.mem_cons.1 hm with rfl | hm
  · exact step _ oi hi h
  · obtain rfl : m = j := by simpa using hm
    exact step _ oj hj h'
end

theorem Blk.set5 {w : World} {g : Nat} {t : TypeId} {u0 u1 u2 u3 u4 v0 v1 v2 v3 v4 : Value} (h : Blk w g t #[u0, u1, u2, u3, u4]) :
    Blk (((((w.setCell ⟨g, 0, none⟩ v0).setCell ⟨g, 1, none⟩ v1).setCell ⟨g, 2, none⟩ v2).setCell ⟨g, 3, none⟩ v3).setCell ⟨g, 4, none⟩ v4) g t #[v0, v1, v2, v3, v4] := by
  have := ((((h.set_ 0 v0).set_ 1 v1).set_ 2 v2).set_ 3 v3).set_ 4 v4
  simpa using this
theorem elNode : El Tryz.prog 117 116 (.agg #[.int .i64 0, .int .i64 0, .bool false, .int .i64 0, .int .i64 0]) 5 40 := ⟨Tryz.underlying117, by kernel_rfl, rfl, by decide⟩

/-- pairs that never differ, closed under steps -/
structure Bis (a b : Aut) (Q : Int → Int → Prop) : Prop where
  lo : ∀ x y, Q x y → -1 ≤ x ∧ x < a.n ∧ -1 ≤ y ∧ y < b.n
  acc : ∀ x y, Q x y → acB a x = acB b y
  nx : ∀ x y k, Q x y → k < 9 → Q (nxI a x k) (nxI b y k)
structure NdQ (Q : Int → Int → Prop) (L : List Nd) : Prop where
  q : ∀ n ∈ L, Q n.a n.b
  nd : (L.map fun n => (n.a, n.b)).Nodup
theorem hasN_iff {L : List Nd} {x y : Int} : hasN L x y = true ↔ (x, y) ∈ L.map fun n => (n.a, n.b) := by
  simp [hasN]
theorem NdQ.push {Q : Int → Int → Prop} {L : List Nd} {x y f b : Int} (h : NdQ Q L) (hq : Q x y) (hn : hasN L x y = false) : NdQ Q (L ++ [⟨x, y, f, b⟩]) := by
  refine ⟨fun n hm => ?_, ?_⟩
  · rcases List.mem_append.1 hm with hm | hm
    · exact h.q n hm
    · simp at hm; subst hm; exact hq
  · rw [List.map_append]
    refine List.nodup_append.2 ⟨h.nd, by simp, fun p hp r hr he => ?_⟩
    simp at hr
    subst hr he
    have := hasN_iff.2 hp
    rw [hn] at this; cases this
theorem NdQ.len {a b : Aut} {Q : Int → Int → Prop} {L : List Nd} (h : NdQ Q L) (hb : Bis a b Q) : L.length ≤ (a.n + 1) * (b.n + 1) := by
  have key := nodup_bound ((a.n + 1) * (b.n + 1)) (L.map fun n => (n.a + 1) * (b.n + 1) + (n.b + 1)) ?_ ?_
  · simpa using key
  · have hp := h.nd
    unfold List.Nodup at hp ⊢
    rw [List.pairwise_map] at hp ⊢
    refine hp.imp_of_mem fun {n m} hn hm hne he => hne ?_
    have h1 := hb.lo _ _ (h.q n hn)
    have h2 := hb.lo _ _ (h.q m hm)
    have e1 : (n.a + 1) * ((b.n : Int) + 1) + (n.b + 1) = (m.a + 1) * ((b.n : Int) + 1) + (m.b + 1) := he
    have ha : n.a = m.a := by
      rcases Int.lt_trichotomy n.a m.a with hlt | heq | hgt
      · have : (n.a + 1 + 1) * ((b.n : Int) + 1) ≤ (m.a + 1) * ((b.n : Int) + 1) := Int.mul_le_mul_of_nonneg_right (by omega) (by omega)
        rw [Int.add_mul (n.a + 1) 1] at this; omega
      · exact heq
      · have : (m.a + 1 + 1) * ((b.n : Int) + 1) ≤ (n.a + 1) * ((b.n : Int) + 1) := Int.mul_le_mul_of_nonneg_right (by omega) (by omega)
        rw [Int.add_mul (m.a + 1) 1] at this; omega
    rw [ha] at e1 ⊢
    rw [show n.b = m.b from by omega]
  · intro x hx
    obtain ⟨n, hn, rfl⟩ := List.mem_map.1 hx
    have h1 := hb.lo _ _ (h.q n hn)
    have h2 : 0 ≤ (n.a + 1) * ((b.n : Int) + 1) := Int.mul_nonneg (by omega) (by omega)
    have h3 : (n.a + 1 + 1) * ((b.n : Int) + 1) ≤ ((a.n : Int) + 1) * ((b.n : Int) + 1) := Int.mul_le_mul_of_nonneg_right (by omega) (by omega)
    rw [Int.add_mul (n.a + 1) 1] at h3
    push_cast
    constructor <;> omega

set_option maxHeartbeats 2000000 in
set_option maxRecDepth 100000 in
theorem l12Differ_any (a b : Aut) (Q : Int → Int → Prop) (s t : Int) (va vb : Value) (w : World) (p q : Nat → Prop) (ha : AutV w p va a) (hb : AutV w q vb b) (hfa : a.Fits) (hfb : b.Fits) (hna : a.n ≤ 100) (hnb : b.n ≤ 100) (hQ : Bis a b Q) (h0 : Q s t) :
    Calls Tryz.prog 91 #[va, .int .i64 s, vb, .int .i64 t, .bool true] w fun e w' => ∃ v, e = .returned (.tuple #[v, .bool false]) ∧ Below w.heap.size w w' := by
  obtain ⟨A1, c1, A2, c2, rfl, _, _⟩ := ha.fit hfa
  obtain ⟨B1, d1, B2, d2, rfl, _, _⟩ := hb.fit hfb
  obtain ⟨W1, hW1⟩ : ∃ W1, W1 = (w.alloc (.cells #[.int .i64 a.start, .slice A1 a.n c1, .slice A2 a.n c2] 31)).alloc (.cells #[.int .i64 b.start, .slice B1 b.n d1, .slice B2 b.n d2] 31) := ⟨_, rfl⟩
  have hPa : AutV W1 (· < w.heap.size) (.agg #[.int .i64 a.start, .slice A1 a.n c1, .slice A2 a.n c2]) a := by rw [hW1]; exact ((ha.weak (fun b _ h => h)).alloc _).alloc _
  have hPb : AutV W1 (· < w.heap.size) (.agg #[.int .i64 b.start, .slice B1 b.n d1, .slice B2 b.n d2]) b := by rw [hW1]; exact ((hb.weak (fun b _ h => h)).alloc _).alloc _
  have hBa : Blk W1 w.heap.size 31 #[.int .i64 a.start, .slice A1 a.n c1, .slice A2 a.n c2] := by rw [hW1]; exact (Blk.new _ _ _).alloc _
  have hBb : Blk W1 (w.heap.size + 1) 31 #[.int .i64 b.start, .slice B1 b.n d1, .slice B2 b.n d2] := by
    have := Blk.new (w.alloc (.cells #[.int .i64 a.start, .slice A1 a.n c1, .slice A2 a.n c2] 31)) 31 #[.int .i64 b.start, .slice B1 b.n d1, .slice B2 b.n d2]
    rw [size_alloc] at this
    rw [hW1]; exact this
  have hW : Below w.heap.size w W1 := by rw [hW1]; exact below_alloc2 _ _ _
  have hs1 : W1.heap.size = w.heap.size + 1 + 1 := by rw [hW1, size_alloc, size_alloc]
  have hI0 : (W1.alloc (.cells #[.int .i64 s, .int .i64 t, .bool false, .int .i64 0, .int .i64 0] 116)).ownsRow (w.heap.size + 1 + 1) 116 5 (.slice (some ⟨w.heap.size + 1 + 1, 0, none⟩) 1 1) 1 (nds [⟨s, t, 0, 0⟩]) := by
    have := World.ownsRow_lit (base := w.heap.size + 1 + 1) (size := 5) (e := 116) W1 #[.int .i64 s, .int .i64 t, .bool false, .int .i64 0, .int .i64 0] 1 (by omega) (by decide) rfl
    rw [hs1] at this
    exact this
  have hq0 : NdQ Q [⟨s, t, 0, 0⟩] := ⟨fun n hn => (by simp at hn; subst hn; exact h0), by simp⟩
  have hb0 : Below (w.heap.size + 1 + 1) W1 (W1.alloc (.cells #[.int .i64 s, .int .i64 t, .bool false, .int .i64 0, .int .i64 0] 116)) := (Below.refl _ _).alloc (by omega) _
  rw [hW1] at hI0 hb0
  go_enter Tryz.func91, Tryz.ntmps91
  go_wp2_with fail
  go_loopw [12, 13] (fun v12 v13 wr => ∃ k L g c, k ≤ L.length ∧ v13 = .int .i64 (k : Nat) ∧ v12 = .slice (some ⟨g, 0, none⟩) L.length c ∧ wr.ownsRow (w.heap.size + 1 + 1) 116 5 v12 L.length (nds L) ∧ Hid (NdQ Q L) ∧ Below (w.heap.size + 1 + 1) W1 wr) (fun _ v _ => (a.n + 1) * (b.n + 1) - (intOf v).toNat)
  case atStart => exact ⟨0, [⟨s, t, 0, 0⟩], _, _, by simp, rfl, rfl, hI0, Lib.hid hq0, by rw [hW1]; exact hb0⟩
  case round =>
    clear hI0 hb0 hq0
    obtain ⟨k, L, g, c, hk, rfl, rfl, hI, hNQ, hbw⟩ := hrel
    have hLb := hNQ.out.len hQ
    have hprod : (a.n + 1) * (b.n + 1) ≤ 101 * 101 := Nat.mul_le_mul (by omega) (by omega)
    have hL1 : L.length ≤ 10201 := by omega
    have hBa2 := hBa.below hbw (by omega)
    have f0 := hBa2.cell 0; have f1 := hBa2.cell 1; have f2 := hBa2.cell 2
    simp at f0 f1 f2
    have hBb2 := hBb.below hbw (by omega)
    have g0 := hBb2.cell 0; have g1 := hBb2.cell 1; have g2 := hBb2.cell 2
    simp at g0 g1 g2
    by_cases hlt : k < L.length
    · have hNd := NdAt.of_own hI
      have q0 := hNd.a k hlt; have q1 := hNd.b k hlt
      have hgl : g < wr.heap.size := (hI.lt g rfl).2
      have hqk := hNQ.out.q (L[k]?.getD nd0) (by rw [List.getElem?_eq_getElem hlt]; exact List.getElem_mem _)
      have hPa2 : AutV wr (· < w.heap.size) (.agg #[.int .i64 a.start, .slice A1 a.n c1, .slice A2 a.n c2]) a := hPa.keep hbw.size (fun b hb _ => hbw.block b (by have hb : b < w.heap.size := hb; omega))
      have hPb2 : AutV wr (· < w.heap.size) (.agg #[.int .i64 b.start, .slice B1 b.n d1, .slice B2 b.n d2]) b := hPb.keep hbw.size (fun b hb _ => hbw.block b (by have hb : b < w.heap.size := hb; omega))
      have hNk : Hid (L[k]?.getD nd0 = L[k]?.getD nd0) := Lib.hid rfl
      generalize hn : L[k]?.getD nd0 = n at q0 q1 hqk hNk
      have HNK := Lib.hid hn; clear hn
      obtain ⟨hx1, hx2, hy1, hy2⟩ := hQ.lo _ _ hqk
      have hac := hQ.acc _ _ hqk
      have hii : (k : Int) < (L.length : Int) := by omega
      have HBs := Lib.hid hbw
      go_wp2_with fail
      go_region_held3 (fun w' => w'.cell? ⟨w.heap.size, 0, none⟩ = some (.int .i64 a.start) ∧ w'.cell? ⟨w.heap.size, 1, none⟩ = some (.slice A1 a.n c1) ∧ w'.cell? ⟨w.heap.size, 2, none⟩ = some (.slice A2 a.n c2) ∧ w'.cell? ⟨g, k * 5, none⟩ = some (.int .i64 n.a))
        (first | go_keep | exact ⟨d0, d1, d2, d3⟩)
        (first
          | (go_at_call 105; refine (l12Accept_any a _ n.a _ _ (by exact hPa2.drew) hx2).mono ?_; rintro e w3 ⟨rfl, hb3⟩; have d0 := (hb3.cell (p := ⟨w.heap.size, 0, none⟩) hBa2.lt).trans f0; have d1 := (hb3.cell (p := ⟨w.heap.size, 1, none⟩) hBa2.lt).trans f1; have d2 := (hb3.cell (p := ⟨w.heap.size, 2, none⟩) hBa2.lt).trans f2; have d3 := (hb3.cell (p := ⟨g, k * 5, none⟩) hgl).trans q0))
      clear d0 d1 d2 d3
      have hb3' : Below wr.heap.size wr w3 := (Below.refl wr.heap.size wr).drew.trans hb3
      have hBb3 := hBb2.below hb3' hBb2.lt
      have hPb3 := hPb2.below hb3'
      have e0 := hBb3.cell 0; have e1 := hBb3.cell 1; have e2 := hBb3.cell 2
      simp at e0 e1 e2
      have e3 := (hb3'.cell (p := ⟨g, k * 5 + 1, none⟩) hgl).trans q1
      have hgl3 : g < w3.heap.size := Nat.lt_of_lt_of_le hgl hb3'.size
      go_wp2_with fail
      go_region_held3 (fun w' => w'.cell? ⟨w.heap.size + 1, 0, none⟩ = some (.int .i64 b.start) ∧ w'.cell? ⟨w.heap.size + 1, 1, none⟩ = some (.slice B1 b.n d1) ∧ w'.cell? ⟨w.heap.size + 1, 2, none⟩ = some (.slice B2 b.n d2) ∧ w'.cell? ⟨g, k * 5 + 1, none⟩ = some (.int .i64 n.b))
        (first | go_keep | exact ⟨d0, d1, d2, d3⟩)
        (first
          | (go_at_call 105; refine (l12Accept_any b _ n.b _ _ (by exact hPb3.drew) hy2).mono ?_; rintro e w4 ⟨rfl, hb4⟩; have d0 := (hb4.cell (p := ⟨w.heap.size + 1, 0, none⟩) hBb3.lt).trans e0; have d1 := (hb4.cell (p := ⟨w.heap.size + 1, 1, none⟩) hBb3.lt).trans e1; have d2 := (hb4.cell (p := ⟨w.heap.size + 1, 2, none⟩) hBb3.lt).trans e2; have d3 := (hb4.cell (p := ⟨g, k * 5 + 1, none⟩) hgl3).trans e3))
      clear d0 d1 d2 d3 e0 e1 e2 e3
      have hb4' : Below wr.heap.size wr w4 := hb3'.trans (((Below.refl w3.heap.size w3).drew.trans hb4).mono hb3'.size)
      have hI4 := own_bel hI hb4'
      have hbw4 : Below (w.heap.size + 1 + 1) W1 w4 := hbw.trans (hb4'.mono (by have := hbw.size; omega))
      clear f0 f1 f2 g0 g1 g2 q0 q1 hBa2 hBb2 hPa2 hPb2 hNd hI hb3 hb4 hb3' hb4' hbw hBb3 hPb3 HBs
      cases acB b n.b <;> (
        go_wp2_with fail
        go_loopw [12, 16] (fun v12 v16 wr => ∃ j L g c, j ≤ 9 ∧ v16 = .int .i64 (j : Nat) ∧ v12 = .slice (some ⟨g, 0, none⟩) L.length c ∧ wr.ownsRow (w.heap.size + 1 + 1) 116 5 v12 L.length (nds L) ∧ Hid (NdQ Q L) ∧ Below (w.heap.size + 1 + 1) W1 wr ∧ k < L.length ∧ Hid (L[k]?.getD nd0 = n)) (fun _ v _ => 9 - (intOf v).toNat)
        case atStart => exact ⟨0, L, g, c, by omega, rfl, rfl, hI4, hNQ, hbw4, hlt, HNK⟩
        case round =>
          clear hI4 hbw4 HNK hNQ hii hlt hLb hL1 hk
          obtain ⟨j, L, g, c, hj, rfl, rfl, hI, hNQ, hbw, hlt, HNK⟩ := hrel
          have hLb := hNQ.out.len hQ
          have hL1 : L.length ≤ 10201 := by omega
          by_cases hj9 : j < 9
          · have hBa2 := hBa.below hbw (by omega)
            have f0 := hBa2.cell 0; have f1 := hBa2.cell 1; have f2 := hBa2.cell 2
            simp at f0 f1 f2
            have hBb2 := hBb.below hbw (by omega)
            have g0 := hBb2.cell 0; have g1 := hBb2.cell 1; have g2 := hBb2.cell 2
            simp at g0 g1 g2
            have hNd := NdAt.of_own hI
            have q0 := hNd.a k hlt; have q1 := hNd.b k hlt
            rw [HNK.out] at q0 q1
            have hgl : g < wr.heap.size := (hI.lt g rfl).2
            have hii : (k : Int) < (L.length : Int) := by omega
            have hqn := Lib.hid (hQ.nx _ _ j hqk hj9)
            have hs2 := hbw.size
            have HC1 : Hid (∀ W' : World, Below wr.heap.size wr W' → Calls Tryz.prog 107 #[.agg #[.int .i64 a.start, .slice A1 a.n c1, .slice A2 a.n c2], .int .i64 n.a, .int .i64 j] W' fun e w'' => e = .returned (.int .i64 (nxI a n.a j)) ∧ Below W'.heap.size W' w'' ∧ Below wr.heap.size wr w'') := Lib.hid (fun W' hW' => by
              have hb2 := hbw.trans (hW'.mono (by omega))
              refine (l12Next_any a _ n.a j W' _ (hPa.keep hb2.size (fun b hb _ => hb2.block b (by have hb : b < w.heap.size := hb; omega))) hfa hx2 hj9).mono ?_
              rintro e w'' ⟨rfl, hb3⟩
              exact ⟨rfl, hb3, hW'.trans (hb3.mono hW'.size)⟩)
            have HC2 : Hid (∀ W' : World, Below wr.heap.size wr W' → Calls Tryz.prog 107 #[.agg #[.int .i64 b.start, .slice B1 b.n d1, .slice B2 b.n d2], .int .i64 n.b, .int .i64 j] W' fun e w'' => e = .returned (.int .i64 (nxI b n.b j)) ∧ Below W'.heap.size W' w'' ∧ Below wr.heap.size wr w'') := Lib.hid (fun W' hW' => by
              have hb2 := hbw.trans (hW'.mono (by omega))
              refine (l12Next_any b _ n.b j W' _ (hPb.keep hb2.size (fun b hb _ => hb2.block b (by have hb : b < w.heap.size := hb; omega))) hfb hy2 hj9).mono ?_
              rintro e w'' ⟨rfl, hb3⟩
              exact ⟨rfl, hb3, hW'.trans (hb3.mono hW'.size)⟩)
            have K0 : Below wr.heap.size wr wr.drew := (Below.refl _ _).drew
            have K1 : Below wr.heap.size wr (wr.alloc (.cells #[.int .i64 0, .int .i64 0, .bool false, .int .i64 0, .int .i64 0] 116)).drew := (below_alloc _ _).drew
            have hZ1 : Blk (wr.alloc (.cells #[.int .i64 0, .int .i64 0, .bool false, .int .i64 0, .int .i64 0] 116)).drew wr.heap.size 116 #[.int .i64 0, .int .i64 0, .bool false, .int .i64 0, .int .i64 0] := Blk.new _ _ _
            have HD : Hid (∀ w', Below wr.heap.size wr w' → (fun w' : World => w'.cell? ⟨w.heap.size, 0, none⟩ = some (.int .i64 a.start) ∧ w'.cell? ⟨w.heap.size, 1, none⟩ = some (.slice A1 a.n c1) ∧ w'.cell? ⟨w.heap.size, 2, none⟩ = some (.slice A2 a.n c2) ∧ w'.cell? ⟨w.heap.size + 1, 0, none⟩ = some (.int .i64 b.start) ∧ w'.cell? ⟨w.heap.size + 1, 1, none⟩ = some (.slice B1 b.n d1) ∧ w'.cell? ⟨w.heap.size + 1, 2, none⟩ = some (.slice B2 b.n d2) ∧ w'.cell? ⟨g, k * 5, none⟩ = some (.int .i64 n.a) ∧ w'.cell? ⟨g, k * 5 + 1, none⟩ = some (.int .i64 n.b)) w') := Lib.hid (fun w' hb => ⟨(hb.cell (p := ⟨w.heap.size, 0, none⟩) hBa2.lt).trans f0, (hb.cell (p := ⟨w.heap.size, 1, none⟩) hBa2.lt).trans f1, (hb.cell (p := ⟨w.heap.size, 2, none⟩) hBa2.lt).trans f2, (hb.cell (p := ⟨w.heap.size + 1, 0, none⟩) hBb2.lt).trans g0, (hb.cell (p := ⟨w.heap.size + 1, 1, none⟩) hBb2.lt).trans g1, (hb.cell (p := ⟨w.heap.size + 1, 2, none⟩) hBb2.lt).trans g2, (hb.cell (p := ⟨g, k * 5, none⟩) hgl).trans q0, (hb.cell (p := ⟨g, k * 5 + 1, none⟩) hgl).trans q1⟩)
            go_upto_region 12 with fail
            go_cut [17] (fun v17 wx => ∃ g17, v17 = .pointer (some ⟨g17, 0, none⟩) ∧ Blk wx g17 116 #[.int .i64 (nxI a n.a j), .int .i64 (nxI b n.b j), .bool false, .int .i64 k, .int .i64 j] ∧ Below wr.heap.size wr wx)
            case first =>
              have hS0 : (fun w' : World => w'.cell? ⟨w.heap.size, 0, none⟩ = some (.int .i64 a.start) ∧ w'.cell? ⟨w.heap.size, 1, none⟩ = some (.slice A1 a.n c1) ∧ w'.cell? ⟨w.heap.size, 2, none⟩ = some (.slice A2 a.n c2) ∧ w'.cell? ⟨w.heap.size + 1, 0, none⟩ = some (.int .i64 b.start) ∧ w'.cell? ⟨w.heap.size + 1, 1, none⟩ = some (.slice B1 b.n d1) ∧ w'.cell? ⟨w.heap.size + 1, 2, none⟩ = some (.slice B2 b.n d2) ∧ w'.cell? ⟨g, k * 5, none⟩ = some (.int .i64 n.a) ∧ w'.cell? ⟨g, k * 5 + 1, none⟩ = some (.int .i64 n.b)) wr.drew := HD.out _ K0
              refine wp_region_X (fun w' : World => w'.cell? ⟨w.heap.size, 0, none⟩ = some (.int .i64 a.start) ∧ w'.cell? ⟨w.heap.size, 1, none⟩ = some (.slice A1 a.n c1) ∧ w'.cell? ⟨w.heap.size, 2, none⟩ = some (.slice A2 a.n c2) ∧ w'.cell? ⟨w.heap.size + 1, 0, none⟩ = some (.int .i64 b.start) ∧ w'.cell? ⟨w.heap.size + 1, 1, none⟩ = some (.slice B1 b.n d1) ∧ w'.cell? ⟨w.heap.size + 1, 2, none⟩ = some (.slice B2 b.n d2) ∧ w'.cell? ⟨g, k * 5, none⟩ = some (.int .i64 n.a) ∧ w'.cell? ⟨g, k * 5 + 1, none⟩ = some (.int .i64 n.b)) 20 (by kernel_rfl) ?_
              (refine wpX_take (i := 0) (v := ?_) (by simp only [List.getElem?_toArray, List.getElem?_cons_succ, List.getElem?_cons_zero]; rfl) (by kernel_rfl) (by kernel_rfl) (by kernel_rfl) (by kernel_rfl) (by exact fun _ _ _ h => h) (Or.inl ⟨by rfl, ?_⟩) (by assumption) ?_; rotate_left; (intro w hSw; (try dsimp only at hSw); go_simp); (try with_reducible rfl); (try simp only [Act.put, List.setIfInBounds_toArray, List.set_cons_zero, List.set_cons_succ]))
              (refine wpX_take (i := 1) (v := ?_) (by simp only [List.getElem?_toArray, List.getElem?_cons_succ, List.getElem?_cons_zero]; rfl) (by kernel_rfl) (by kernel_rfl) (by kernel_rfl) (by kernel_rfl) (by exact fun _ _ _ h => h) (Or.inl ⟨by rfl, ?_⟩) (by assumption) ?_; rotate_left; (intro w hSw; (try dsimp only at hSw); go_simp); (try with_reducible rfl); (try simp only [Act.put, List.setIfInBounds_toArray, List.set_cons_zero, List.set_cons_succ]))
              (refine wpX_take (i := 2) (v := ?_) (by simp only [List.getElem?_toArray, List.getElem?_cons_succ, List.getElem?_cons_zero]; rfl) (by kernel_rfl) (by kernel_rfl) (by kernel_rfl) (by kernel_rfl) (by exact fun _ _ _ h => h) (Or.inl ⟨by rfl, ?_⟩) (by assumption) ?_; rotate_left; (intro w hSw; (try dsimp only at hSw); go_simp); (try with_reducible rfl); (try simp only [Act.put, List.setIfInBounds_toArray, List.set_cons_zero, List.set_cons_succ]))
              (refine wpX_take (i := 3) (v := ?_) (by simp only [List.getElem?_toArray, List.getElem?_cons_succ, List.getElem?_cons_zero]; rfl) (by kernel_rfl) (by kernel_rfl) (by kernel_rfl) (by kernel_rfl) (by exact fun _ _ _ h => h) (Or.inl ⟨by rfl, ?_⟩) (by assumption) ?_; rotate_left; (intro w hSw; (try dsimp only at hSw); go_simp); (try with_reducible rfl); (try simp only [Act.put, List.setIfInBounds_toArray, List.set_cons_zero, List.set_cons_succ]))
              (refine wpX_take (i := 4) (v := ?_) (by simp only [List.getElem?_toArray, List.getElem?_cons_succ, List.getElem?_cons_zero]; rfl) (by kernel_rfl) (by kernel_rfl) (by kernel_rfl) (by kernel_rfl) (by exact fun _ _ _ h => h) (Or.inl ⟨by rfl, ?_⟩) (by assumption) ?_; rotate_left; (intro w hSw; (try dsimp only at hSw); go_simp); (try with_reducible rfl); (try simp only [Act.put, List.setIfInBounds_toArray, List.set_cons_zero, List.set_cons_succ]))
              (refine wpX_take (i := 5) (v := ?_) (by simp only [List.getElem?_toArray, List.getElem?_cons_succ, List.getElem?_cons_zero]; rfl) (by kernel_rfl) (by kernel_rfl) (by kernel_rfl) (by kernel_rfl) (by exact fun _ _ _ h => h) (Or.inl ⟨by rfl, ?_⟩) (by assumption) ?_; rotate_left; (intro w hSw; (try dsimp only at hSw); go_simp); (try with_reducible rfl); (try simp only [Act.put, List.setIfInBounds_toArray, List.set_cons_zero, List.set_cons_succ]))
              (refine wpX_take (i := 6) (v := ?_) (by simp only [List.getElem?_toArray, List.getElem?_cons_succ, List.getElem?_cons_zero]; rfl) (by kernel_rfl) (by kernel_rfl) (by kernel_rfl) (by kernel_rfl) (by exact fun _ _ _ h => h) (Or.inl ⟨by rfl, ?_⟩) (by assumption) ?_; rotate_left; (intro w hSw; (try dsimp only at hSw); go_simp); (try with_reducible rfl); (try simp only [Act.put, List.setIfInBounds_toArray, List.set_cons_zero, List.set_cons_succ]))
              (refine wpX_take (i := 8) (v := ?_) (by simp only [List.getElem?_toArray, List.getElem?_cons_succ, List.getElem?_cons_zero]; rfl) (by kernel_rfl) (by kernel_rfl) (by kernel_rfl) (by kernel_rfl) (by exact fun _ _ _ h => h) (Or.inl ⟨by rfl, ?_⟩) (by assumption) ?_; rotate_left; (intro w hSw; (try dsimp only at hSw); go_simp); (try with_reducible rfl); (try simp only [Act.put, List.setIfInBounds_toArray, List.set_cons_zero, List.set_cons_succ]))
              (refine wpX_take (i := 9) (v := ?_) (by simp only [List.getElem?_toArray, List.getElem?_cons_succ, List.getElem?_cons_zero]; rfl) (by kernel_rfl) (by kernel_rfl) (by kernel_rfl) (by kernel_rfl) (by exact fun _ _ _ h => h) (Or.inl ⟨by rfl, ?_⟩) (by assumption) ?_; rotate_left; (intro w hSw; (try dsimp only at hSw); go_simp); (try with_reducible rfl); (try simp only [Act.put, List.setIfInBounds_toArray, List.set_cons_zero, List.set_cons_succ]))
              (refine wpX_take (i := 10) (v := ?_) (by simp only [List.getElem?_toArray, List.getElem?_cons_succ, List.getElem?_cons_zero]; rfl) (by kernel_rfl) (by kernel_rfl) (by kernel_rfl) (by kernel_rfl) (by exact fun _ _ _ h => h) (Or.inl ⟨by rfl, ?_⟩) (by assumption) ?_; rotate_left; (intro w hSw; (try dsimp only at hSw); go_simp); (try with_reducible rfl); (try simp only [Act.put, List.setIfInBounds_toArray, List.set_cons_zero, List.set_cons_succ]))
              (refine wpX_take (i := 11) (v := ?_) (by simp only [List.getElem?_toArray, List.getElem?_cons_succ, List.getElem?_cons_zero]; rfl) (by kernel_rfl) (by kernel_rfl) (by kernel_rfl) (by kernel_rfl) (by exact fun _ _ _ h => h) (Or.inl ⟨by rfl, ?_⟩) (by assumption) ?_; rotate_left; (intro w hSw; (try dsimp only at hSw); go_simp); (try with_reducible rfl); (try simp only [Act.put, List.setIfInBounds_toArray, List.set_cons_zero, List.set_cons_succ]))
              (refine wpX_take (i := 12) (v := ?_) (by simp only [List.getElem?_toArray, List.getElem?_cons_succ, List.getElem?_cons_zero]; rfl) (by kernel_rfl) (by kernel_rfl) (by kernel_rfl) (by kernel_rfl) (by exact fun _ _ _ h => h) (Or.inl ⟨by rfl, ?_⟩) (by assumption) ?_; rotate_left; (intro w hSw; (try dsimp only at hSw); go_simp); (try with_reducible rfl); (try simp only [Act.put, List.setIfInBounds_toArray, List.set_cons_zero, List.set_cons_succ]))
              (refine wpX_take (i := 13) (v := ?_) (by simp only [List.getElem?_toArray, List.getElem?_cons_succ, List.getElem?_cons_zero]; rfl) (by kernel_rfl) (by kernel_rfl) (by kernel_rfl) (by kernel_rfl) (by exact fun _ _ _ h => h) (Or.inl ⟨by rfl, ?_⟩) (by assumption) ?_; rotate_left; (intro w hSw; (try dsimp only at hSw); go_simp); (try with_reducible rfl); (try simp only [Act.put, List.setIfInBounds_toArray, List.set_cons_zero, List.set_cons_succ]))
              (refine wpX_take (i := 14) (v := ?_) (by simp only [List.getElem?_toArray, List.getElem?_cons_succ, List.getElem?_cons_zero]; rfl) (by kernel_rfl) (by kernel_rfl) (by kernel_rfl) (by kernel_rfl) (by exact fun _ _ _ h => h) (Or.inl ⟨by rfl, ?_⟩) (by assumption) ?_; rotate_left; (intro w hSw; (try dsimp only at hSw); go_simp); (try with_reducible rfl); (try simp only [Act.put, List.setIfInBounds_toArray, List.set_cons_zero, List.set_cons_succ]))
              (refine wpX_take (i := 16) (v := ?_) (by simp only [List.getElem?_toArray, List.getElem?_cons_succ, List.getElem?_cons_zero]; rfl) (by kernel_rfl) (by kernel_rfl) (by kernel_rfl) (by kernel_rfl) (by exact fun _ _ _ h => h) (Or.inl ⟨by rfl, ?_⟩) (by assumption) ?_; rotate_left; (intro w hSw; (try dsimp only at hSw); go_simp); (try with_reducible rfl); (try simp only [Act.put, List.setIfInBounds_toArray, List.set_cons_zero, List.set_cons_succ]))
              (refine wpX_take (i := 17) (v := ?_) (by simp only [List.getElem?_toArray, List.getElem?_cons_succ, List.getElem?_cons_zero]; rfl) (by kernel_rfl) (by kernel_rfl) (by kernel_rfl) (by kernel_rfl) (by exact fun _ _ _ h => h) (Or.inl ⟨by rfl, ?_⟩) (by assumption) ?_; rotate_left; (intro w hSw; (try dsimp only at hSw); go_simp); (try with_reducible rfl); (try simp only [Act.put, List.setIfInBounds_toArray, List.set_cons_zero, List.set_cons_succ]))
              refine wpX_two (i := 7) (j := 19) (by kernel_rfl) (by simp only [List.getElem?_toArray, List.getElem?_cons_succ, List.getElem?_cons_zero]; rfl) (by simp only [List.getElem?_toArray, List.getElem?_cons_succ, List.getElem?_cons_zero]; rfl) (fun K hK => ?_) (fun K hK => ?_)
              · go_simp
                refine (HC1.out _ K0).mono ?_
                rintro e w3 ⟨rfl, hb3, K3⟩
                (refine hK.out _ _ (Or.inr (HD.out _ K3)) ?_; clear hK; (try simp only [Act.put, List.setIfInBounds_toArray, List.set_cons_zero, List.set_cons_succ]))
                refine wpX_two (i := 15) (j := 19) (by kernel_rfl) (by simp only [List.getElem?_toArray, List.getElem?_cons_succ, List.getElem?_cons_zero]; rfl) (by simp only [List.getElem?_toArray, List.getElem?_cons_succ, List.getElem?_cons_zero]; rfl) (fun K hK => ?_) (fun K hK => ?_)
                · go_simp
                  refine (HC2.out _ K3).mono ?_
                  rintro e w4 ⟨rfl, hb4, K4⟩
                  have s4 := HD.out _ K4
                  (refine hK.out _ _ (Or.inr s4) ?_; clear hK; (try simp only [Act.put, List.setIfInBounds_toArray, List.set_cons_zero, List.set_cons_succ]))
                  (refine wpX_take (i := 18) (v := ?_) (by simp only [List.getElem?_toArray, List.getElem?_cons_succ, List.getElem?_cons_zero]; rfl) (by kernel_rfl) (by kernel_rfl) (by kernel_rfl) (by kernel_rfl) (by exact fun _ _ _ h => h) (Or.inl ⟨by rfl, ?_⟩) (by assumption) ?_; rotate_left; (intro w hSw; (try dsimp only at hSw); go_simp); (try with_reducible rfl); (try simp only [Act.put, List.setIfInBounds_toArray, List.set_cons_zero, List.set_cons_succ]))
                  refine wpX_one (i := 19) (by kernel_rfl) (by simp only [List.getElem?_toArray, List.getElem?_cons_succ, List.getElem?_cons_zero]; rfl) (fun K hK => ?_)
                  go_simp
                  have K5 := K4.trans ((below_alloc w4 (.cells #[.int .i64 0, .int .i64 0, .bool false, .int .i64 0, .int .i64 0] 116)).mono K4.size)
                  (refine hK.out _ _ (Or.inr (HD.out _ K5)) ?_; clear hK; (try simp only [Act.put, List.setIfInBounds_toArray, List.set_cons_zero, List.set_cons_succ]))
                  refine wpX_one (i := 20) (by kernel_rfl) (by simp only [List.getElem?_toArray, List.getElem?_cons_succ, List.getElem?_cons_zero]; rfl) (fun K hK => ?_)
                  go_simp
                  (refine hK.out _ _ (Or.inl rfl) ?_; clear hK; (try simp only [Act.put, List.setIfInBounds_toArray, List.set_cons_zero, List.set_cons_succ]))
                  refine wpX_done (by kernel_rfl) ?_ _
                  go_wp2_with fail
                  go_meet
                  exact ⟨_, rfl, Blk.new _ _ _, K4.trans ((below_alloc w4 _).mono K4.size)⟩
                · go_simp
                  have K3a := K3.trans ((below_alloc w3 (.cells #[.int .i64 0, .int .i64 0, .bool false, .int .i64 0, .int .i64 0] 116)).mono K3.size)
                  have hZ3 := Blk.new w3 116 #[.int .i64 0, .int .i64 0, .bool false, .int .i64 0, .int .i64 0]
                  (refine hK.out _ _ (Or.inr (HD.out _ K3a)) ?_; clear hK; (try simp only [Act.put, List.setIfInBounds_toArray, List.set_cons_zero, List.set_cons_succ]))
                  refine wpX_one (i := 15) (by kernel_rfl) (by simp only [List.getElem?_toArray, List.getElem?_cons_succ, List.getElem?_cons_zero]; rfl) (fun K hK => ?_)
                  go_simp
                  refine (HC2.out _ K3a).mono ?_
                  rintro e w4 ⟨rfl, hb4, K4⟩
                  have s4 := HD.out _ K4
                  have hZ4 := hZ3.below hb4 hZ3.lt
                  (refine hK.out _ _ (Or.inr s4) ?_; clear hK; (try simp only [Act.put, List.setIfInBounds_toArray, List.set_cons_zero, List.set_cons_succ]))
                  (refine wpX_take (i := 18) (v := ?_) (by simp only [List.getElem?_toArray, List.getElem?_cons_succ, List.getElem?_cons_zero]; rfl) (by kernel_rfl) (by kernel_rfl) (by kernel_rfl) (by kernel_rfl) (by exact fun _ _ _ h => h) (Or.inl ⟨by rfl, ?_⟩) (by assumption) ?_; rotate_left; (intro w hSw; (try dsimp only at hSw); go_simp); (try with_reducible rfl); (try simp only [Act.put, List.setIfInBounds_toArray, List.set_cons_zero, List.set_cons_succ]))
                  have hw3 := K3.size
                  have o0 := hZ4.cell 0; have o1 := hZ4.cell 1; have o2 := hZ4.cell 2; have o3 := hZ4.cell 3; have o4 := hZ4.cell 4
                  have y0 := hZ4.frozen 0; have y1 := hZ4.frozen 1; have y2 := hZ4.frozen 2; have y3 := hZ4.frozen 3; have y4 := hZ4.frozen 4
                  simp at o0 o1 o2 o3 o4
                  refine wpX_one (i := 20) (by kernel_rfl) (by simp only [List.getElem?_toArray, List.getElem?_cons_succ, List.getElem?_cons_zero]; rfl) (fun K hK => ?_)
                  go_simp
                  (refine hK.out _ _ (Or.inl rfl) ?_; clear hK; (try simp only [Act.put, List.setIfInBounds_toArray, List.set_cons_zero, List.set_cons_succ]))
                  refine wpX_done (by kernel_rfl) ?_ _
                  go_wp2_with fail
                  go_meet
                  exact ⟨_, rfl, hZ4.set5, ((((K4.setCell (by simp; try omega) _).setCell (by simp; try omega) _).setCell (by simp; try omega) _).setCell (by simp; try omega) _).setCell (by simp; try omega) _⟩
              · go_simp
                (refine hK.out _ _ (Or.inr (HD.out _ K1)) ?_; clear hK; (try simp only [Act.put, List.setIfInBounds_toArray, List.set_cons_zero, List.set_cons_succ]))
                refine wpX_one (i := 7) (by kernel_rfl) (by simp only [List.getElem?_toArray, List.getElem?_cons_succ, List.getElem?_cons_zero]; rfl) (fun K hK => ?_)
                go_simp
                refine (HC1.out _ K1).mono ?_
                rintro e w3 ⟨rfl, hb3, K3⟩
                have hZ3 := hZ1.below hb3 hZ1.lt
                (refine hK.out _ _ (Or.inr (HD.out _ K3)) ?_; clear hK; (try simp only [Act.put, List.setIfInBounds_toArray, List.set_cons_zero, List.set_cons_succ]))
                refine wpX_one (i := 15) (by kernel_rfl) (by simp only [List.getElem?_toArray, List.getElem?_cons_succ, List.getElem?_cons_zero]; rfl) (fun K hK => ?_)
                go_simp
                refine (HC2.out _ K3).mono ?_
                rintro e w4 ⟨rfl, hb4, K4⟩
                have s4 := HD.out _ K4
                have hZ4 := hZ3.below hb4 hZ3.lt
                (refine hK.out _ _ (Or.inr s4) ?_; clear hK; (try simp only [Act.put, List.setIfInBounds_toArray, List.set_cons_zero, List.set_cons_succ]))
                (refine wpX_take (i := 18) (v := ?_) (by simp only [List.getElem?_toArray, List.getElem?_cons_succ, List.getElem?_cons_zero]; rfl) (by kernel_rfl) (by kernel_rfl) (by kernel_rfl) (by kernel_rfl) (by exact fun _ _ _ h => h) (Or.inl ⟨by rfl, ?_⟩) (by assumption) ?_; rotate_left; (intro w hSw; (try dsimp only at hSw); go_simp); (try with_reducible rfl); (try simp only [Act.put, List.setIfInBounds_toArray, List.set_cons_zero, List.set_cons_succ]))
                have o0 := hZ4.cell 0; have o1 := hZ4.cell 1; have o2 := hZ4.cell 2; have o3 := hZ4.cell 3; have o4 := hZ4.cell 4
                have y0 := hZ4.frozen 0; have y1 := hZ4.frozen 1; have y2 := hZ4.frozen 2; have y3 := hZ4.frozen 3; have y4 := hZ4.frozen 4
                simp at o0 o1 o2 o3 o4
                refine wpX_one (i := 20) (by kernel_rfl) (by simp only [List.getElem?_toArray, List.getElem?_cons_succ, List.getElem?_cons_zero]; rfl) (fun K hK => ?_)
                go_simp
                (refine hK.out _ _ (Or.inl rfl) ?_; clear hK; (try simp only [Act.put, List.setIfInBounds_toArray, List.set_cons_zero, List.set_cons_succ]))
                refine wpX_done (by kernel_rfl) ?_ _
                go_wp2_with fail
                go_meet
                exact ⟨_, rfl, hZ4.set5, ((((K4.setCell (by simp; try omega) _).setCell (by simp; try omega) _).setCell (by simp; try omega) _).setCell (by simp; try omega) _).setCell (by simp; try omega) _⟩
            case rest =>
              obtain ⟨g17, rfl, hZ, hbz⟩ := hcut
              have hIc := own_bel hI hbz
              have hNdc := NdAt.of_own hIc
              have hglc : g < wc.heap.size := (hIc.lt g rfl).2
              have hbwc := hbw.trans (hbz.mono (by omega))
              have hsc : w.heap.size + 1 + 1 ≤ wc.heap.size := by have := hbwc.size; omega
              have z0 := hZ.cell 0; have z1 := hZ.cell 1; have z2 := hZ.cell 2; have z3 := hZ.cell 3; have z4 := hZ.cell 4
              simp at z0 z1 z2 z3 z4
              have HPU := Lib.hid (fun (hh : hasN L (nxI a n.a j) (nxI b n.b j) = false) => hNQ.out.push (f := (k : Int)) (b := (j : Int)) hqn.out hh)
              clear hI hNd q0 q1 f0 f1 f2 g0 g1 g2 K0 K1 hZ1 HC1 HC2 HD hBa2 hBb2 hbz hqn
              generalize nxI a n.a j = x at *
              generalize nxI b n.b j = y at *
              have hhc := l10Has_any L g c x y k j wc hNdc hglc (by omega)
              cases hh : hasN L x y with
              | true =>
                rw [hh] at hhc
                clear hh HPU
                go_wp2_with (go_at_call 108; refine hhc.mono ?_; rintro e w5 ⟨rfl, hb5⟩)
                go_roundw
                case rel => exact ⟨j + 1, L, g, c, by omega, by go_num, rfl, own_bel hIc hb5, hNQ, hbwc.trans (hb5.mono (by omega)), hlt, HNK⟩
                case measure => simp [intOf]; omega
              | false =>
                have HP := Lib.hid (HPU.out hh)
                rw [hh] at hhc
                clear hh HPU
                go_wp2_with (first
                  | (go_at_call 108; refine hhc.mono ?_; rintro e w5 ⟨rfl, hb5⟩; have hI5 := own_bel hIc hb5; have hbw5 := hbwc.trans (hb5.mono (by omega)); have hs5 := Nat.le_trans hsc hb5.size; have hZ5 := hZ.below hb5 hZ.lt; have t0 := hZ5.cell 0; have t1 := hZ5.cell 1; have t2 := hZ5.cell 2; have t3 := hZ5.cell 3; have t4 := hZ5.cell 4; simp at t0 t1 t2 t3 t4)
                  | (at_builtin; refine wpList_app1 elNode rfl (.tmp 88) (.tmp 90) rfl (w.heap.size + 1 + 1) _ L.length (nds L) rfl hI5 #[.int .i64 x, .int .i64 y, .bool false, .int .i64 k, .int .i64 j] _ rfl (by simp) rfl (by simp [Value.oneCell']) (by omega) (by omega) hs5 ?_; intro g6 c6 w6 ho6 hg6 hb6 _ _))
                go_roundw
                case rel => exact ⟨j + 1, L ++ [⟨x, y, k, j⟩], g6, c6, by omega, by go_num, by simp, by rw [nds_snoc]; simpa [Nd.cells] using ho6, HP, hbw5.grown hg6 hs5 (own_ge hI5), by simp; omega, Lib.hid (by rw [List.getElem?_append_left hlt]; exact HNK.out)⟩
                case measure => simp [intOf]; omega
          · obtain rfl : j = 9 := by omega
            go_wp2
            go_roundw
            case rel => exact ⟨k + 1, L, g, c, by omega, by go_num, rfl, hI, hNQ, hbw⟩
            case measure => simp [intOf]; omega)
    · go_wp2
      go_ret2
      exact ⟨_, rfl, (hW.trans (hbw.mono (by omega))).alloc (by have := hbw.size; omega) _⟩
end Go.Proofs.YtmnhpbbapkcdjaaGreat
