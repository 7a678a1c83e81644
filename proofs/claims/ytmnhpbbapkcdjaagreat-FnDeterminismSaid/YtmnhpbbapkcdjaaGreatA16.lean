/- Walks: the subset construction of the specification. No condition. -/
import Derived.Test.YtmnhpbbapkcdjaaGreatA15
import Derived.Deep.DeepCutAuto

/- Walks: the subset construction of the specification. -/
namespace Go.Proofs.YtmnhpbbapkcdjaaGreat
open Go.RowKit

set_option maxRecDepth 100000 in
theorem l11Find_any (A : Option Addr) (n c : Nat) (xs : List Int) (x : Int) (p : Nat → Prop) (w : World) (h : Sl w p 1 A n (ints xs)) :
    Calls Tryz.prog 63 #[.slice A n c, .int .i64 x] w fun e w' => e = .returned (.int .i64 (findI x xs 0)) ∧ w = w' := by
  have hm : n ≤ 9223372036854775807 := by have := h.2.1; unfold maxLen at this; omega
  have H := Lib.hid h.len1
  go_enter Tryz.func63, Tryz.ntmps63
  go_wp2
  go_loop [5] (fun i => ∃ k : Nat, k ≤ n ∧ i = .int .i64 k ∧ Hid (findI x xs 0 = findI x (xs.drop k) k)) (fun i => n - (intOf i).toNat)
  case atStart => exact ⟨0, Nat.zero_le _, rfl, Lib.hid rfl⟩
  case round =>
    obtain ⟨k, hk, rfl, Hf⟩ := hrel
    by_cases hlt : k < n
    · obtain ⟨b, off, rfl, _, hb, hc⟩ := h.int_at hlt
      have Hs := Lib.hid (findI_step x xs k (by rw [H.out]; exact hlt))
      generalize xs[k]?.getD 0 = y at *
      by_cases hy : y = x
      · have hy' : (y == x) = true := by simpa using hy
        have He := Lib.hid (show findI x xs 0 = (k : Int) by rw [Hf.out, Hs.out, if_pos hy])
        clear hy
        go_wp2
        go_ret
        exact ⟨by rw [He.out]; rfl, rfl⟩
      · have hy' : (y == x) = false := by simpa using hy
        have He := Lib.hid (show findI x xs 0 = findI x (xs.drop (k + 1)) (k + 1) by rw [Hf.out, Hs.out, if_neg hy])
        clear hy
        go_wp2
        go_round
        case rel => exact ⟨k + 1, by omega, by go_num, He⟩
        case measure => simp [intOf]; omega
    · have He := Lib.hid (show findI x xs 0 = -1 by rw [Hf.out]; exact findI_end x xs k (by rw [H.out]; omega))
      go_wp2
      go_ret
      exact ⟨by rw [He.out]; rfl, rfl⟩

/-- the subset construction's next state -/
def subNx (a : Pos) (s : Int) (k : Nat) : Option Int := if afterI a s k = 0 then none else some (afterI a s k)

/-- at the head of a round -/
structure SubR (a : Pos) (most : Nat) (w2 : World) (base go i : Nat) (ls : List Int) (acc : List Bool) (fin : List (Value × List Int)) (va vn vl : Value) (wr : World) : Prop where
  run : numbR (subNx a) (accI a) most 1 = numRun (subNx a) (accI a) most (most + 2 - i) i ls acc (fin.map Prod.snd)
  le : i ≤ ls.length
  bd : ls.length ≤ most ∨ (i = 0 ∧ ls.length = 1)
  mo : NMo w2 base acc (fin.map Prod.fst) va vn go wr
  rows : IRows wr base ((vl, ls) :: fin)
  al : acc.length = i
  fl : fin.length = i

def SubRel (a : Pos) (most : Nat) (w2 : World) (base go : Nat) (vl iv : Value) (wr : World) : Prop :=
  ∃ i ls acc fin va vn g c, iv = .int .i64 (i : Nat) ∧ vl = .slice (some ⟨g, 0, none⟩) ls.length c ∧ SubR a most w2 base go i ls acc fin va vn vl wr
def subW2 (w : World) (cs : Array Value) : World := (w.alloc (.cells cs 26)).alloc (.cells #[.int .i64 0, .slice none 0 0, .slice none 0 0] 31)
theorem subW2_size (w : World) (cs : Array Value) : (subW2 w cs).heap.size = w.heap.size + 1 + 1 := by simp [subW2]
theorem subRel_start (a : Pos) (most : Nat) (w : World) (cs : Array Value) :
    SubRel a most (subW2 w cs) (w.heap.size + 1 + 1) (w.heap.size + 1 + 1) (.slice (some ⟨w.heap.size + 1 + 1 + 1, 0, none⟩) 1 1) (.int .i64 0)
      (((subW2 w cs).alloc (.cells #[.int .i64 0, .slice none 0 0, .slice none 0 0] 31)).alloc (.cells #[.int .i64 1] 3)) := by
  have hm := nm_start (subW2 w cs) 1
  have hr := IRows.one (u := 1) (g := (subW2 w cs).heap.size + 1) (base := (subW2 w cs).heap.size) (w := (subW2 w cs).alloc (.cells #[.int .i64 0, .slice none 0 0, .slice none 0 0] 31)) IRows.nil_ (by simp) (by omega)
  rw [subW2_size] at hm hr
  exact ⟨0, [1], [], [], _, _, _, _, rfl, rfl, rfl, by simp, .inr ⟨rfl, rfl⟩, hm, hr, rfl, rfl⟩

/-- an automaton made by the call, in blocks of its own, and whether there is one -/
def AutOkO (w w' : World) (r : Option (List Bool × List (List Int))) (e : Ending) : Prop :=
  ∃ v, e = .returned (.tuple #[v, .bool r.isSome]) ∧ AutO w' w.heap.size v (resAut r) ∧ Below w.heap.size w w'
set_option maxHeartbeats 1000000 in
set_option maxRecDepth 100000 in
theorem l11Subsets_own (a : Pos) (v : Value) (most : Nat) (w : World) (p : Nat → Prop) (h : PosV w p v a) (hf : a.follow.length = a.n) (hn : a.n ≤ 20) (hmost : most ≤ 1000) :
    Calls Tryz.prog 30 #[v, .int .i64 most] w fun e w' => AutOkO w w' (numbR (subNx a) (accI a) most 1) e := by
  obtain ⟨A1, c1, A2, c2, hv, _, _⟩ := h.fit hf
  subst hv
  have hP : PosV (subW2 w #[.slice A1 a.n c1, .int .i64 a.first, .int .i64 a.last, .slice A2 a.n c2, .bool a.nullable]) (· < w.heap.size) _ a := (((h.weak (fun b _ h => h)).alloc _).alloc _)
  have hPB : Blk (subW2 w #[.slice A1 a.n c1, .int .i64 a.first, .int .i64 a.last, .slice A2 a.n c2, .bool a.nullable]) w.heap.size 26 #[.slice A1 a.n c1, .int .i64 a.first, .int .i64 a.last, .slice A2 a.n c2, .bool a.nullable] := (Blk.new _ _ _).alloc _
  have hRB : Blk (subW2 w #[.slice A1 a.n c1, .int .i64 a.first, .int .i64 a.last, .slice A2 a.n c2, .bool a.nullable]) (w.heap.size + 1) 31 #[.int .i64 0, .slice none 0 0, .slice none 0 0] := by
    have := Blk.new (w.alloc (.cells #[.slice A1 a.n c1, .int .i64 a.first, .int .i64 a.last, .slice A2 a.n c2, .bool a.nullable] 26)) 31 #[.int .i64 0, .slice none 0 0, .slice none 0 0]
    rwa [size_alloc] at this
  have hW : Below w.heap.size w (subW2 w #[.slice A1 a.n c1, .int .i64 a.first, .int .i64 a.last, .slice A2 a.n c2, .bool a.nullable]) := below_alloc2 _ _ _
  have hR0 := subRel_start a most w #[.slice A1 a.n c1, .int .i64 a.first, .int .i64 a.last, .slice A2 a.n c2, .bool a.nullable]
  go_enter Tryz.func30, Tryz.ntmps30
  go_wp2_with fail
  go_loopw [7, 8] (fun vl iv wr => SubRel a most (subW2 w #[.slice A1 a.n c1, .int .i64 a.first, .int .i64 a.last, .slice A2 a.n c2, .bool a.nullable]) (w.heap.size + 1 + 1) (w.heap.size + 1 + 1) vl iv wr) (fun _ i _ => most + 1 - (intOf i).toNat)
  case atStart => exact hR0
  case round =>
    clear hR0
    generalize subW2 w #[.slice A1 a.n c1, .int .i64 a.first, .int .i64 a.last, .slice A2 a.n c2, .bool a.nullable] = W2 at *
    obtain ⟨i, ls, acc, fin, va, vn, g, c, rfl, rfl, hI⟩ := hrel
    obtain ⟨wo, rfl⟩ : ∃ wo : World, wo = wr := ⟨_, rfl⟩
    have hll : ls.length ≤ 1001 := by rcases hI.bd with h | h <;> omega
    by_cases hlt : i < ls.length
    · have hrow := IRows.new hI.rows (g := wo.heap.size) rfl (by have := hI.mo.below.size; have := hI.mo.size; omega)
      have hrow := hrow.perm (List.Perm.swap _ _ _)
      have hmo := hI.mo.alloc (.cells #[] 3)
      have hbb := hI.bd
      go_wp2_with fail
      go_loopw [7, 9, 10] (fun vl vr kv wr => ∃ k g c g2 c2, k ≤ 9 ∧ kv = .int .i64 (k : Nat) ∧ vl = .slice (some ⟨g, 0, none⟩) (upto (rowStep (subNx a) (ls[i]?.getD 0)) (ls, []) k).1.length c ∧ vr = .slice (some ⟨g2, 0, none⟩) k c2 ∧
          IRows wr (w.heap.size + 1 + 1) ((vl, (upto (rowStep (subNx a) (ls[i]?.getD 0)) (ls, []) k).1) :: (vr, (upto (rowStep (subNx a) (ls[i]?.getD 0)) (ls, []) k).2) :: fin) ∧ NMo W2 (w.heap.size + 1 + 1) acc (fin.map Prod.fst) va vn (w.heap.size + 1 + 1) wr) (fun _ _ k _ => 9 - (intOf k).toNat)
      case atStart => exact ⟨0, _, _, _, _, by omega, rfl, rfl, rfl, hrow, hmo⟩
      case round =>
        obtain ⟨k, g1, c1', g2, c2', hk, rfl, rfl, rfl, hR, hM⟩ := hrel
        clear hrow hmo
        have HPL := Lib.hid (upto_row_len (nx := subNx a) (s := ls[i]?.getD 0) (ls := ls) k)
        have HAT := Lib.hid (upto_row_at (nx := subNx a) (s := ls[i]?.getD 0) hlt k)
        have HSU : Hid (upto (rowStep (subNx a) (ls[i]?.getD 0)) (ls, []) (k + 1) = rowStep (subNx a) (ls[i]?.getD 0) (upto (rowStep (subNx a) (ls[i]?.getD 0)) (ls, []) k) k) := Lib.hid rfl
        have H9 : Hid (k = 9 → rowF (subNx a) (ls[i]?.getD 0) ls = upto (rowStep (subNx a) (ls[i]?.getD 0)) (ls, []) k) := Lib.hid (fun h => by rw [h]; rfl)
        generalize upto (rowStep (subNx a) (ls[i]?.getD 0)) (ls, []) k = st at *
        have hrl : st.2.length = k := HPL.out.1
        have hsl : i < st.1.length := by have := HPL.out.2.1; omega
        have hsb : st.1.length ≤ 1010 := by have := HPL.out.2.2; omega
        have HRL := Lib.hid hrl; clear hrl
        have hBx := hPB.below hM.below (by omega)
        have f0 := hBx.cell 0; have f1 := hBx.cell 1; have f2 := hBx.cell 2; have f3 := hBx.cell 3; have f4 := hBx.cell 4
        simp at f0 f1 f2 f3 f4
        by_cases hk9 : k < 9
        · have hci : wr.cell? ⟨g1, i, none⟩ = some (.int .i64 (ls[i]?.getD 0)) := by have := own_int_at hR.head hsl; rwa [HAT.out] at this
          have hg1 : g1 < wr.heap.size := (hR.head.lt g1 rfl).2
          have hPw : PosV wr (· < w.heap.size) (.agg #[.slice A1 a.n c1, .int .i64 a.first, .int .i64 a.last, .slice A2 a.n c2, .bool a.nullable]) a := hP.keep hM.below.size (fun b hb _ => hM.below.block b (by omega))
          generalize ls[i]?.getD 0 = s0 at *
          have hii : (i : Int) < (st.1.length : Int) := by omega
          go_wp2_with fail
          go_region_held3 (fun w' => w'.cell? ⟨w.heap.size, 0, none⟩ = some (.slice A1 a.n c1) ∧ w'.cell? ⟨w.heap.size, 1, none⟩ = some (.int .i64 a.first) ∧ w'.cell? ⟨w.heap.size, 2, none⟩ = some (.int .i64 a.last) ∧ w'.cell? ⟨w.heap.size, 3, none⟩ = some (.slice A2 a.n c2) ∧ w'.cell? ⟨w.heap.size, 4, none⟩ = some (.bool a.nullable) ∧ w'.cell? ⟨g1, i, none⟩ = some (.int .i64 s0))
            (first | go_keep | exact ⟨d0, d1, d2, d3, d4, d5⟩)
            (first | (go_at_call 36; refine (l10After_any a _ s0 k _ _ (by exact hPw.drew) hf hn).mono ?_; rintro e w3 ⟨rfl, hb3⟩; have d0 := (hb3.cell (p := ⟨w.heap.size, 0, none⟩) hBx.lt).trans f0; have d1 := (hb3.cell (p := ⟨w.heap.size, 1, none⟩) hBx.lt).trans f1; have d2 := (hb3.cell (p := ⟨w.heap.size, 2, none⟩) hBx.lt).trans f2; have d3 := (hb3.cell (p := ⟨w.heap.size, 3, none⟩) hBx.lt).trans f3; have d4 := (hb3.cell (p := ⟨w.heap.size, 4, none⟩) hBx.lt).trans f4; have d5 := (hb3.cell (p := ⟨g1, i, none⟩) hg1).trans hci))
          have hR3 := hR.drew.below hb3
          have hM3 := hM.drew.bel hb3
          have hbs : w.heap.size + 1 + 1 ≤ w3.heap.size := Nat.le_trans (Nat.le_trans hM.size hM.below.size) hb3.size
          clear hR hM hb3 d0 d1 d2 d3 d4 d5 f0 f1 f2 f3 f4 hci hPw hBx
          by_cases hx : afterI a s0 k = 0
          · have hx' : (afterI a s0 k != 0) = false := by simpa using hx
            have HS : Hid (rowStep (subNx a) s0 st k = (st.1, st.2 ++ [-1])) := Lib.hid (rowStep_none (by unfold subNx; rw [if_pos hx]))
            clear hx
            go_wp2_with (at_builtin; refine wpList_app1 elInt rfl _ _ rfl (w.heap.size + 1 + 1) _ k (ints st.2) rfl (by have := hR3.snd; rwa [HRL.out] at this) #[.int .i64 (-1)] _ rfl (by simp) rfl ?c0 ?c1 ?c2 ?c3 ?_)
            case c0 => simp [Value.oneCell']
            case c1 => omega
            case c2 => omega
            case c3 => exact hbs
            intro g4 c4 w4 ho4 hg4 hb4 _ _
            have hM4 := hM3.farInt (by have := hR3.snd; rwa [HRL.out] at this) hg4
            have hR4 := hR3.appRow HRL.out.symm ho4 hg4 hb4
            clear ho4 hg4 hb4 hR3 hM3
            go_wp2
            go_roundw
            case rel => exact ⟨k + 1, g1, c1', g4, c4, by omega, by go_num, by rw [HSU.out, HS.out], rfl, by rw [HSU.out, HS.out]; exact hR4, hM4⟩
            case measure => simp [intOf]; omega
          · have hx' : (afterI a s0 k != 0) = true := by simpa using hx
            have HN : Hid (subNx a s0 k = some (afterI a s0 k)) := Lib.hid (by unfold subNx; rw [if_neg hx])
            have HSl : Sl w3 (fun _ => True) 1 (some ⟨g1, 0, none⟩) st.1.length (ints st.1) := Sl.of_own hR3.head (fun _ _ => trivial)
            clear hx
            generalize afterI a s0 k = x at *
            by_cases hfi : findI x st.1 0 < 0
            · have HS := Lib.hid (rowStep_new (st := st) HN.out hfi)
              have hfi' : decide (findI x st.1 0 < 0) = true := by simpa using hfi
              clear hfi
              go_wp2_with (first
                | (go_at_call 63; refine (l11Find_any _ _ c1' st.1 x _ w3 HSl).mono ?_; rintro e w4 ⟨rfl, rfl⟩)
                | (at_builtin; refine wpList_app1 elInt rfl (.tmp 42) (.tmp 44) rfl (w.heap.size + 1 + 1) _ st.1.length (ints st.1) rfl hR3.head #[.int .i64 x] _ rfl (by simp) rfl (by simp [Value.oneCell']) (by omega) (by omega) hbs ?_; intro g4 c4 w4 ho4 hg4 hb4 hlt4 _; have hM4 := hM3.farInt hR3.head hg4; have hR4 := hR3.appList rfl ho4 hg4 hb4; have hbs4 := Nat.le_trans hbs hg4.size; clear ho4 hg4 hb4)
                | (at_builtin; refine wpList_app1 elInt rfl (.tmp 46) (.tmp 48) rfl (w.heap.size + 1 + 1) _ k (ints st.2) rfl (by have := hR4.snd; rwa [HRL.out] at this) #[.int .i64 st.1.length] _ rfl (by simp) rfl (by simp [Value.oneCell']) (by omega) (by omega) hbs4 ?_; intro g5 c5 w5 ho5 hg5 hb5 _ _; have hM5 := hM4.farInt (by have := hR4.snd; rwa [HRL.out] at this) hg5; have hR5 := hR4.appRow HRL.out.symm ho5 hg5 hb5; clear ho5 hg5 hb5))
              go_roundw
              case rel => exact ⟨k + 1, g4, c4, g5, c5, by omega, by go_num, by rw [HSU.out, HS.out]; simp, rfl, by rw [HSU.out, HS.out]; exact hR5, hM5⟩
              case measure => simp [intOf]; omega
            · have HS := Lib.hid (rowStep_old (st := st) HN.out hfi)
              have hfi' : decide (findI x st.1 0 < 0) = false := by simpa using hfi
              clear hfi
              go_wp2_with (first
                | (go_at_call 63; refine (l11Find_any _ _ c1' st.1 x _ w3 HSl).mono ?_; rintro e w4 ⟨rfl, rfl⟩)
                | (at_builtin; refine wpList_app1 elInt rfl (.tmp 46) (.tmp 48) rfl (w.heap.size + 1 + 1) _ k (ints st.2) rfl (by have := hR3.snd; rwa [HRL.out] at this) #[.int .i64 (findI x st.1 0)] _ rfl (by simp) rfl (by simp [Value.oneCell']) (by omega) (by omega) hbs ?_; intro g5 c5 w5 ho5 hg5 hb5 _ _; have hM5 := hM3.farInt (by have := hR3.snd; rwa [HRL.out] at this) hg5; have hR5 := hR3.appRow HRL.out.symm ho5 hg5 hb5; clear ho5 hg5 hb5))
              go_roundw
              case rel => exact ⟨k + 1, g1, c1', g5, c5, by omega, by go_num, by rw [HSU.out, HS.out], rfl, by rw [HSU.out, HS.out]; exact hR5, hM5⟩
              case measure => simp [intOf]; omega
        · obtain rfl : k = 9 := by omega
          have hRBx := hRB.below hM.below (by omega)
          have HRF := Lib.hid (H9.out rfl)
          clear H9
          by_cases hmo : most < st.1.length
          · have q0 := hRBx.cell 0; have q1 := hRBx.cell 1; have q2 := hRBx.cell 2
            simp at q0 q1 q2
            have z0 := hRBx.frozen 0; have z1 := hRBx.frozen 1; have z2 := hRBx.frozen 2
            have HE : Hid (numbR (subNx a) (accI a) most 1 = none) := Lib.hid (by rw [hI.run]; exact numRun_fail (by have := hI.bd; omega) hlt (by rw [HRF.out]; exact hmo))
            have hbz : Below w.heap.size w wr := hW.trans (hM.below.mono (by omega))
            go_wp2
            refine bodyPost_ret (v := .tuple #[.agg #[.int .i64 0, .slice none 0 0, .slice none 0 0], .bool false]) (by simp [results, Tryz.results30, go_sem, q0, q1, q2]) rfl ?_
            refine ⟨_, by rw [HE.out]; rfl, by rw [HE.out]; exact AutO.none_ _ _, ?_⟩
            exact ((hbz.setCell (by simp) _).setCell (by simp) _).setCell (by simp) _
          · have HN := Lib.hid (numRun_next (nx := subNx a) (ac := accI a) (acc := acc) (nxs := fin.map Prod.snd) (f := most + 2 - i) (by have := hI.bd; omega) hlt (by rw [HRF.out]; exact hmo))
            have hci : wr.cell? ⟨g1, i, none⟩ = some (.int .i64 (ls[i]?.getD 0)) := by have := own_int_at hR.head hsl; rwa [HAT.out] at this
            have hg1 : g1 < wr.heap.size := (hR.head.lt g1 rfl).2
            have hPw : PosV wr (· < w.heap.size) (.agg #[.slice A1 a.n c1, .int .i64 a.first, .int .i64 a.last, .slice A2 a.n c2, .bool a.nullable]) a := hP.keep hM.below.size (fun b hb _ => hM.below.block b (by omega))
            clear HAT HSU
            generalize ls[i]?.getD 0 = s0 at *
            have hii : (i : Int) < (st.1.length : Int) := by omega
            have x1 := hM.out.cell 1
            simp at x1
            have hgo := hM.out.lt
            have halb : acc.length ≤ 1001 := by have := hI.al; have := hI.bd; omega
            have hfl : (fin.map Prod.fst).length ≤ 1001 := by have := hI.fl; have := hI.bd; simp; omega
            have hbs : w.heap.size + 1 + 1 ≤ wr.heap.size := Nat.le_trans hM.size hM.below.size
            go_upto_region 20 with fail
            go_cut [64] (fun _ wx => ∃ va', NMo W2 (w.heap.size + 1 + 1) (acc ++ [accI a (s0)]) (fin.map Prod.fst) va' vn (w.heap.size + 1 + 1) wx ∧ IRows wx (w.heap.size + 1 + 1) ((.slice (some ⟨g1, 0, none⟩) st.1.length c1', st.1) :: (.slice (some ⟨g2, 0, none⟩) 9 c2', st.2) :: fin))
            case first =>
              have hS0 : (fun w' : World => w'.cell? ⟨w.heap.size, 0, none⟩ = some (.slice A1 a.n c1) ∧ w'.cell? ⟨w.heap.size, 1, none⟩ = some (.int .i64 a.first) ∧ w'.cell? ⟨w.heap.size, 2, none⟩ = some (.int .i64 a.last) ∧ w'.cell? ⟨w.heap.size, 3, none⟩ = some (.slice A2 a.n c2) ∧ w'.cell? ⟨w.heap.size, 4, none⟩ = some (.bool a.nullable) ∧ w'.cell? ⟨g1, i, none⟩ = some (.int .i64 s0) ∧ w'.cell? ⟨w.heap.size + 1 + 1, 1, none⟩ = some va) wr.drew := ⟨f0, f1, f2, f3, f4, hci, x1⟩
              refine wp_region_X (fun w' : World => w'.cell? ⟨w.heap.size, 0, none⟩ = some (.slice A1 a.n c1) ∧ w'.cell? ⟨w.heap.size, 1, none⟩ = some (.int .i64 a.first) ∧ w'.cell? ⟨w.heap.size, 2, none⟩ = some (.int .i64 a.last) ∧ w'.cell? ⟨w.heap.size, 3, none⟩ = some (.slice A2 a.n c2) ∧ w'.cell? ⟨w.heap.size, 4, none⟩ = some (.bool a.nullable) ∧ w'.cell? ⟨g1, i, none⟩ = some (.int .i64 s0) ∧ w'.cell? ⟨w.heap.size + 1 + 1, 1, none⟩ = some va) 11 (by kernel_rfl) ?_
              (refine wpX_take (i := 0) (v := ?_) (by simp only [List.getElem?_toArray, List.getElem?_cons_succ, List.getElem?_cons_zero]; rfl) (by kernel_rfl) (by kernel_rfl) (by kernel_rfl) (by kernel_rfl) (by exact fun _ _ _ h => h) (Or.inl ⟨by rfl, ?_⟩) (by assumption) ?_; rotate_left; (intro w hSw; (try dsimp only at hSw); go_simp); (try with_reducible rfl); (try simp only [Act.put, List.setIfInBounds_toArray, List.set_cons_zero, List.set_cons_succ]))
              (refine wpX_take (i := 1) (v := ?_) (by simp only [List.getElem?_toArray, List.getElem?_cons_succ, List.getElem?_cons_zero]; rfl) (by kernel_rfl) (by kernel_rfl) (by kernel_rfl) (by kernel_rfl) (by exact fun _ _ _ h => h) (Or.inl ⟨by rfl, ?_⟩) (by assumption) ?_; rotate_left; (intro w hSw; (try dsimp only at hSw); go_simp); (try with_reducible rfl); (try simp only [Act.put, List.setIfInBounds_toArray, List.set_cons_zero, List.set_cons_succ]))
              (refine wpX_take (i := 2) (v := ?_) (by simp only [List.getElem?_toArray, List.getElem?_cons_succ, List.getElem?_cons_zero]; rfl) (by kernel_rfl) (by kernel_rfl) (by kernel_rfl) (by kernel_rfl) (by exact fun _ _ _ h => h) (Or.inl ⟨by rfl, ?_⟩) (by assumption) ?_; rotate_left; (intro w hSw; (try dsimp only at hSw); go_simp); (try with_reducible rfl); (try simp only [Act.put, List.setIfInBounds_toArray, List.set_cons_zero, List.set_cons_succ]))
              (refine wpX_take (i := 3) (v := ?_) (by simp only [List.getElem?_toArray, List.getElem?_cons_succ, List.getElem?_cons_zero]; rfl) (by kernel_rfl) (by kernel_rfl) (by kernel_rfl) (by kernel_rfl) (by exact fun _ _ _ h => h) (Or.inl ⟨by rfl, ?_⟩) (by assumption) ?_; rotate_left; (intro w hSw; (try dsimp only at hSw); go_simp); (try with_reducible rfl); (try simp only [Act.put, List.setIfInBounds_toArray, List.set_cons_zero, List.set_cons_succ]))
              (refine wpX_take (i := 4) (v := ?_) (by simp only [List.getElem?_toArray, List.getElem?_cons_succ, List.getElem?_cons_zero]; rfl) (by kernel_rfl) (by kernel_rfl) (by kernel_rfl) (by kernel_rfl) (by exact fun _ _ _ h => h) (Or.inl ⟨by rfl, ?_⟩) (by assumption) ?_; rotate_left; (intro w hSw; (try dsimp only at hSw); go_simp); (try with_reducible rfl); (try simp only [Act.put, List.setIfInBounds_toArray, List.set_cons_zero, List.set_cons_succ]))
              (refine wpX_take (i := 5) (v := ?_) (by simp only [List.getElem?_toArray, List.getElem?_cons_succ, List.getElem?_cons_zero]; rfl) (by kernel_rfl) (by kernel_rfl) (by kernel_rfl) (by kernel_rfl) (by exact fun _ _ _ h => h) (Or.inl ⟨by rfl, ?_⟩) (by assumption) ?_; rotate_left; (intro w hSw; (try dsimp only at hSw); go_simp); (try with_reducible rfl); (try simp only [Act.put, List.setIfInBounds_toArray, List.set_cons_zero, List.set_cons_succ]))
              (refine wpX_take (i := 6) (v := ?_) (by simp only [List.getElem?_toArray, List.getElem?_cons_succ, List.getElem?_cons_zero]; rfl) (by kernel_rfl) (by kernel_rfl) (by kernel_rfl) (by kernel_rfl) (by exact fun _ _ _ h => h) (Or.inl ⟨by rfl, ?_⟩) (by assumption) ?_; rotate_left; (intro w hSw; (try dsimp only at hSw); go_simp); (try with_reducible rfl); (try simp only [Act.put, List.setIfInBounds_toArray, List.set_cons_zero, List.set_cons_succ]))
              refine wpX_one (i := 7) (by kernel_rfl) (by simp only [List.getElem?_toArray, List.getElem?_cons_succ, List.getElem?_cons_zero]; rfl) (fun K hK => ?_)
              go_simp
              refine (l10Accepts_any a _ _ _ _ hPw.drew).mono ?_; rintro e w3 ⟨rfl, hb3⟩
              have hM3 := hM.drew.bel hb3
              have hR3 := hR.drew.below hb3
              have hbs3 := Nat.le_trans hbs hb3.size
              have hB3 : Blk w3 w.heap.size 26 _ := Blk.below (w := wr.drew) hBx hb3 hBx.lt
              have s1 : (fun w' : World => w'.cell? ⟨w.heap.size, 0, none⟩ = some (.slice A1 a.n c1) ∧ w'.cell? ⟨w.heap.size, 1, none⟩ = some (.int .i64 a.first) ∧ w'.cell? ⟨w.heap.size, 2, none⟩ = some (.int .i64 a.last) ∧ w'.cell? ⟨w.heap.size, 3, none⟩ = some (.slice A2 a.n c2) ∧ w'.cell? ⟨w.heap.size, 4, none⟩ = some (.bool a.nullable) ∧ w'.cell? ⟨g1, i, none⟩ = some (.int .i64 s0) ∧ w'.cell? ⟨w.heap.size + 1 + 1, 1, none⟩ = some va) w3 := ⟨hB3.cell 0, hB3.cell 1, hB3.cell 2, hB3.cell 3, hB3.cell 4, (hb3.cell (p := ⟨g1, i, none⟩) hg1).trans hci, hM3.out.cell 1⟩
              (refine hK.out _ _ (Or.inr s1) ?_; clear hK; (try simp only [Act.put, List.setIfInBounds_toArray, List.set_cons_zero, List.set_cons_succ]))
              have hB4 := hB3.alloc (.cells #[.bool (accI a (s0))] 4)
              have s2 : (fun w' : World => w'.cell? ⟨w.heap.size, 0, none⟩ = some (.slice A1 a.n c1) ∧ w'.cell? ⟨w.heap.size, 1, none⟩ = some (.int .i64 a.first) ∧ w'.cell? ⟨w.heap.size, 2, none⟩ = some (.int .i64 a.last) ∧ w'.cell? ⟨w.heap.size, 3, none⟩ = some (.slice A2 a.n c2) ∧ w'.cell? ⟨w.heap.size, 4, none⟩ = some (.bool a.nullable) ∧ w'.cell? ⟨g1, i, none⟩ = some (.int .i64 s0) ∧ w'.cell? ⟨w.heap.size + 1 + 1, 1, none⟩ = some va) (w3.alloc (.cells #[.bool (accI a (s0))] 4)) := ⟨hB4.cell 0, hB4.cell 1, hB4.cell 2, hB4.cell 3, hB4.cell 4, (Below.cell (below_alloc w3 _) (p := ⟨g1, i, none⟩) (Nat.lt_of_lt_of_le hg1 hb3.size)).trans s1.2.2.2.2.2.1, (hM3.alloc _).out.cell 1⟩
              refine wpX_one (i := 8) (by kernel_rfl) (by simp only [List.getElem?_toArray, List.getElem?_cons_succ, List.getElem?_cons_zero]; rfl) (fun K hK => ?_)
              go_simp
              (refine hK.out _ _ (Or.inr s2) ?_; clear hK; (try simp only [Act.put, List.setIfInBounds_toArray, List.set_cons_zero, List.set_cons_succ]))
              refine wpX_one (i := 9) (by kernel_rfl) (by simp only [List.getElem?_toArray, List.getElem?_cons_succ, List.getElem?_cons_zero]; rfl) (fun K hK => ?_)
              refine step_app1 elBool (by rfl) (.tmp 56) (.tmp 63) (by rfl) (w.heap.size + 1 + 1) va acc.length (bools acc) (by rfl) hM3.acc #[.bool (accI a s0)] _ (by rfl) (by simp) rfl (by simp [Value.oneCell']) (by omega) (by omega) hbs3 ?_
              intro g6 c6 w6 ho6 hg6 hb6 _ _
              have hnp := own_blk_ne hM3.acc hB3 (by decide)
              have hM6 := hM3.putAcc (b := accI a s0) (by rw [← bools_snoc]; simpa using ho6) hg6
              have hR6 := hR3.far hM3.acc hg6 (by decide)
              have ho1 := hM3.out.grown hg6 (own_blk_ne hM3.acc hM3.out (by decide))
              have y1 := ho1.cell 1
              have z1 := ho1.frozen 1
              have s3 : (fun w' : World => w'.cell? ⟨w.heap.size, 0, none⟩ = some (.slice A1 a.n c1) ∧ w'.cell? ⟨w.heap.size, 1, none⟩ = some (.int .i64 a.first) ∧ w'.cell? ⟨w.heap.size, 2, none⟩ = some (.int .i64 a.last) ∧ w'.cell? ⟨w.heap.size, 3, none⟩ = some (.slice A2 a.n c2) ∧ w'.cell? ⟨w.heap.size, 4, none⟩ = some (.bool a.nullable) ∧ w'.cell? ⟨g1, i, none⟩ = some (.int .i64 s0) ∧ w'.cell? ⟨w.heap.size + 1 + 1, 1, none⟩ = some va) w6 := ⟨hg6.cell s1.1 hnp, hg6.cell s1.2.1 hnp, hg6.cell s1.2.2.1 hnp, hg6.cell s1.2.2.2.1 hnp, hg6.cell s1.2.2.2.2.1 hnp, hg6.cell s1.2.2.2.2.2.1 (by have := own_ne hR3.head hM3.acc (by decide); simpa [Value.ownBlock] using this), y1⟩
              have hbk := hR6.farBlk (w' := w6.setCell ⟨w.heap.size + 1 + 1, 1, none⟩ (.slice (some ⟨g6, 0, none⟩) (acc.length + 1) c6)) ho1 ⟨rfl, rfl, rfl, by simp, fun k hk hne => Below.heap_setCell w6 _ _ k (fun e => hne (by rw [e]))⟩ (by decide)
              (refine hK.out _ _ (Or.inr s3) ?_; clear hK; (try simp only [Act.put, List.setIfInBounds_toArray, List.set_cons_zero, List.set_cons_succ]))
              simp at y1
              (refine wpX_take (i := 10) (v := ?_) (by simp only [List.getElem?_toArray, List.getElem?_cons_succ, List.getElem?_cons_zero]; rfl) (by kernel_rfl) (by kernel_rfl) (by kernel_rfl) (by kernel_rfl) (by exact fun _ _ _ h => h) (Or.inl ⟨by rfl, ?_⟩) (by assumption) ?_; rotate_left; (intro w hSw; (try dsimp only at hSw); go_simp); (try with_reducible rfl); (try simp only [Act.put, List.setIfInBounds_toArray, List.set_cons_zero, List.set_cons_succ]))
              refine wpX_one (i := 11) (by kernel_rfl) (by simp only [List.getElem?_toArray, List.getElem?_cons_succ, List.getElem?_cons_zero]; rfl) (fun K hK => ?_)
              go_simp
              (refine hK.out _ _ (Or.inl rfl) ?_; clear hK; (try simp only [Act.put, List.setIfInBounds_toArray, List.set_cons_zero, List.set_cons_succ]))
              refine wpX_done (by kernel_rfl) ?_ _
              go_wp2_with fail
              go_meet
              exact ⟨_, hM6, hbk⟩
            case rest =>
              obtain ⟨va', hM7, hR7⟩ := hcut
              have hbs7 : w.heap.size + 1 + 1 ≤ wc.heap.size := Nat.le_trans hM7.size hM7.below.size
              have x4 := hM7.out.cell 2
              simp at x4
              go_wp2_with (at_builtin; refine wpList_app1 elRow rfl (.tmp 67) (.tmp 69) rfl (w.heap.size + 1 + 1) vn (fin.map Prod.fst).length (fin.map Prod.fst) rfl hM7.next #[.slice (some ⟨g2, 0, none⟩) 9 c2'] _ rfl (by simp) rfl (by simp [Value.oneCell']) (by omega) (by omega) hbs7 ?_; intro g8 c8 w8 ho8 hg8 hb8 _ _; have ho9 := hM7.out.grown hg8 (own_blk_ne hM7.next hM7.out (by decide)); have y2 := ho9.cell 2; have z2 := ho9.frozen 2; simp at y2)
              have hM8 := hM7.putNext (u := .slice (some ⟨g2, 0, none⟩) 9 c2') (by simpa using ho8) hg8
              have hR8 := (hR7.far hM7.next hg8 (by decide)).farBlk (w' := w8.setCell ⟨w.heap.size + 1 + 1, 2, none⟩ (.slice (some ⟨g8, 0, none⟩) ((fin.map Prod.fst).length + 1) c8)) ho9 ⟨rfl, rfl, rfl, by simp, fun k hk hne => Below.heap_setCell w8 _ _ k (fun e => hne (by rw [e]))⟩ (by decide)
              have hR9 := hR8.perm (List.Perm.cons _ (List.perm_append_singleton _ _).symm)
              have HRun : Hid (numbR (subNx a) (accI a) most 1 = numRun (subNx a) (accI a) most (most + 2 - (i + 1)) (i + 1) st.1 (acc ++ [accI a s0]) ((fin ++ [((Value.slice (some ⟨g2, 0, none⟩) 9 c2' : Value), st.2)]).map Prod.snd)) := Lib.hid (by
                rw [hI.run, HN.out, HRF.out, List.map_append, show most + 2 - i - 1 = most + 2 - (i + 1) from by omega]; rfl)
              go_roundw
              case rel => exact ⟨i + 1, st.1, acc ++ [accI a s0], fin ++ [(.slice (some ⟨g2, 0, none⟩) 9 c2', st.2)], va', _, g1, c1', by go_num, rfl, HRun.out, by omega, by left; omega, by rw [List.map_append]; simpa using hM8, by simpa using hR9, by simp [hI.al], by simp [hI.fl]⟩
              case measure => simp [intOf]; have := hI.bd; omega
    · have hRBx := hRB.below hI.mo.below (by omega)
      have q0 := hRBx.cell 0; have q1 := hRBx.cell 1; have q2 := hRBx.cell 2
      have o0 := hI.mo.out.cell 0; have o1 := hI.mo.out.cell 1; have o2 := hI.mo.out.cell 2
      simp at q0 q1 q2 o0 o1 o2
      have z0 := hRBx.frozen 0; have z1 := hRBx.frozen 1; have z2 := hRBx.frozen 2
      have HE : Hid (numbR (subNx a) (accI a) most 1 = some (acc, fin.map Prod.snd)) := Lib.hid (by rw [hI.run]; exact numRun_done (by have := hI.bd; have := hI.le; omega) hlt)
      have hbz : Below w.heap.size w wo := hW.trans (hI.mo.below.mono (by omega))
      have hA := (hI.mo.autO (fin := fin) rfl hI.rows.tail)
      obtain ⟨A3, c3, rfl⟩ := own_form hI.mo.acc
      obtain ⟨A4, c4, rfl⟩ := own_form hI.mo.next
      go_wp2
      refine bodyPost_ret (v := .tuple #[.agg #[.int .i64 0, .slice A3 acc.length c3, .slice A4 (fin.map Prod.fst).length c4], .bool true]) (by simp [results, Tryz.results30, go_sem, q0, q1, q2]) rfl ?_
      refine ⟨_, by rw [HE.out]; rfl, ?_, ((hbz.setCell (by simp) _).setCell (by simp) _).setCell (by simp) _⟩
      rw [HE.out]
      have hs : ∀ (W : World) (i : Nat) (u : Value), W.grownBy (W.setCell ⟨w.heap.size + 1, i, none⟩ u) (some (w.heap.size + 1)) := fun W i u => ⟨rfl, rfl, rfl, by simp, fun k hk hne => Below.heap_setCell W _ _ k (fun e => hne (by rw [e]))⟩
      have hlt' : ∀ b, some (w.heap.size + 1) = some b → b < w.heap.size + 1 + 1 := fun b e => by injection e with e; omega
      exact AutO.mono (base := w.heap.size + 1 + 1) (((hA.keep (hs _ _ _) hlt').keep (hs _ _ _) hlt').keep (hs _ _ _) hlt') (by omega)
theorem l11Subsets_any (a : Pos) (v : Value) (most : Nat) (w : World) (p : Nat → Prop) (h : PosV w p v a) (hf : a.follow.length = a.n) (hn : a.n ≤ 20) (hmost : most ≤ 1000) :
    Calls Tryz.prog 30 #[v, .int .i64 most] w fun e w' => AutOk w w' (numbR (subNx a) (accI a) most 1) e :=
  (l11Subsets_own a v most w p h hf hn hmost).mono fun _ _ ⟨v, h1, h2, h3⟩ => ⟨v, h1, h2.aut, h3⟩
end Go.Proofs.YtmnhpbbapkcdjaaGreat
