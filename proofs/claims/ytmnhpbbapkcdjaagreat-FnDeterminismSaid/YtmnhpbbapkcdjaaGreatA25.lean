/- Walks: the classes of states, the specification; Walks: minimization, the functions of the statement. No condition. -/
import Derived.Test.YtmnhpbbapkcdjaaGreatA24

/- Walks: the classes of states, the specification. -/
namespace Go.Proofs.YtmnhpbbapkcdjaaGreat
open Go.RowKit

theorem RfO.take {w1 wr w' : World} {base : Nat} {K : List (List Int)} {L fin : List (Value × List Int)} {vK v : Value} {xs : List Int} (h : RfO w1 base K L fin vK wr) (hb : Below wr.heap.size wr w') (ho : w'.ownsRow wr.heap.size 3 1 v xs.length (ints xs)) (hv : v.ownBlock ≠ none) :
    RfO w1 base K ((v, xs) :: L) fin vK w' := by
  have h2 := h.bel hb
  refine ⟨h2.keys, ⟨fun p hp => ?_, ?_⟩, h2.snd, h2.below, h2.size⟩
  · rcases List.mem_cons.1 hp with rfl | hp
    · exact ⟨ho.mono h.size, hv⟩
    · exact h2.rows.own p hp
  · refine List.pairwise_cons.2 ⟨fun p hp he => ?_, h2.rows.apart⟩
    cases hk : v.ownBlock with
    | none => exact hv hk
    | some k =>
      have h3 := own_ge ho k hk
      have h4 := ((h.rows.own p hp).1.lt k (by rw [← he]; exact hk)).2
      omega
set_option maxHeartbeats 2000000 in
set_option maxRecDepth 100000 in
theorem l12Classes_any (a : Aut) (v : Value) (w : World) (p : Nat → Prop) (h : AutV w p v a) (hf : a.Fits) (hn : a.n ≤ 1000) :
    Calls Tryz.prog 74 #[v] w fun e w' => OwnI w w' a.n (clsF a) e := by
  obtain ⟨A1, c1, A2, c2, rfl, h1, h2⟩ := h.fit hf
  have hP := (h.weak (fun b _ h => (h : b < w.heap.size))).alloc (.cells #[.int .i64 a.start, .slice A1 a.n c1, .slice A2 a.n c2] 31)
  have hPB := Blk.new w 31 #[.int .i64 a.start, .slice A1 a.n c1, .slice A2 a.n c2]
  have hW := below_alloc w (.cells #[.int .i64 a.start, .slice A1 a.n c1, .slice A2 a.n c2] 31)
  go_enter Tryz.func74, Tryz.ntmps74
  go_wp2_with fail
  refine (l11Live_any a _ _ _ hP hf hn).mono ?_; rintro e w0 ⟨gl, capl, rfl, hown, hb1⟩
  obtain ⟨w1, hw1⟩ : ∃ w1, w1 = w0.alloc (.cells #[] 3) := ⟨_, rfl⟩
  have hP1 : AutV w1 (· < w.heap.size) (.agg #[.int .i64 a.start, .slice A1 a.n c1, .slice A2 a.n c2]) a := by rw [hw1]; exact (hP.below hb1).alloc _
  have hA1 : Sl w1 (· < w.heap.size) 1 A1 a.n (bools a.acc) := by rw [hw1]; exact (((h1.weak (fun b _ h => (h : b < w.heap.size))).alloc _).below hb1 (fun _ _ h => h)).alloc _
  have hPB1 : Blk w1 w.heap.size 31 #[.int .i64 a.start, .slice A1 a.n c1, .slice A2 a.n c2] := by rw [hw1]; exact (hPB.below hb1 hPB.lt).alloc _
  have hs0 : w.heap.size + 1 ≤ w0.heap.size := by have := hb1.size; simp at this; omega
  have hbz : Below w.heap.size w w1 := by rw [hw1]; exact (hW.trans (hb1.mono (by simp))).alloc (by omega) _
  have hI0 : w1.ownsRow (w.heap.size + 1) 3 1 (.slice (some ⟨w0.heap.size, 0, none⟩) 0 0) 0 (ints []) := by rw [hw1]; exact own0 rfl hs0
  have hL0 : w1.ownsRow (w.heap.size + 1) 4 1 (.slice (some ⟨gl, 0, none⟩) a.n capl) a.n (bools (liveF a)) := by rw [hw1]; exact own_bel (hown.mono (by simp)) (below_alloc _ _)
  have hs1 : w.heap.size + 1 ≤ w1.heap.size := by rw [hw1]; simp; omega
  clear hP hPB hb1 hW hown
  rw [hw1] at hI0 hL0
  go_wp2_with fail
  go_loopw [4, 5] (fun v3 i wr => ∃ k g c, k ≤ a.n ∧ i = .int .i64 (k : Nat) ∧ v3 = .slice (some ⟨g, 0, none⟩) k c ∧ wr.ownsRow (w.heap.size + 1) 3 1 v3 k (ints (initTo a k)) ∧ wr.ownsRow (w.heap.size + 1) 4 1 (.slice (some ⟨gl, 0, none⟩) a.n capl) a.n (bools (liveF a)) ∧ Below (w.heap.size + 1) w1 wr) (fun _ i _ => a.n - (intOf i).toNat)
  case atStart => exact ⟨0, _, _, by omega, rfl, rfl, hI0, hL0, by rw [hw1]; exact Below.refl _ _⟩
  case round =>
    clear hI0 hL0
    obtain ⟨k, g, c, hk, rfl, rfl, hI, hL, hb⟩ := hrel
    have hbs : w.heap.size + 1 ≤ wr.heap.size := by have := hb.size; omega
    have hPB2 := hPB1.below hb (by omega)
    have f1 := hPB2.cell 1
    simp at f1
    by_cases hlt : k < a.n
    · have HS := Lib.hid (initTo_snoc a k)
      have hlc := own_bool_at hL hlt
      have hA1w : Sl wr (· < w.heap.size) 1 A1 a.n (bools a.acc) := hA1.keep hb.size (fun b hb2 _ => hb.block b (by omega))
      obtain ⟨bA, oA, rfl, _, _, hca⟩ := hA1w.bool_at hlt
      cases hlv : (liveF a)[k]?.getD false with
      | false =>
        have HV : Hid (initV a k = -1) := Lib.hid (by unfold initV; rw [if_neg (by rw [hlv]; simp)])
        rw [hlv] at hlc
        clear hlv
        cases hac : a.acc[k]?.getD false <;> (
          rw [hac] at hca
          clear hac
          go_wp2_with (at_builtin; refine wpList_app1 elInt rfl (.tmp 34) (.tmp 36) rfl (w.heap.size + 1) _ k _ rfl hI #[.int .i64 (-1)] _ rfl (by simp) rfl (by simp [Value.oneCell']) (by omega) (by omega) hbs ?_; intro g4 c4 w4 ho4 hg4 _ _ _; have hb4 := hb.grown hg4 (by omega) (own_ge hI); have hL4 := hL.kept hg4 (own_ne hL hI (by decide)))
          go_roundw
          case rel => exact ⟨k + 1, g4, c4, by omega, by go_num, rfl, by rw [HS.out, HV.out, ← ints_snoc]; exact ho4, hL4, hb4⟩
          case measure => simp [intOf]; omega)
      | true =>
        rw [hlv] at hlc
        cases hac : a.acc[k]?.getD false with
        | true =>
          have HV : Hid (initV a k = 1) := Lib.hid (by unfold initV; rw [if_pos hlv, if_pos hac])
          rw [hac] at hca
          clear hlv hac
          go_wp2_with (at_builtin; refine wpList_app1 elInt rfl (.tmp 34) (.tmp 36) rfl (w.heap.size + 1) _ k _ rfl hI #[.int .i64 1] _ rfl (by simp) rfl (by simp [Value.oneCell']) (by omega) (by omega) hbs ?_; intro g4 c4 w4 ho4 hg4 _ _ _; have hb4 := hb.grown hg4 (by omega) (own_ge hI); have hL4 := hL.kept hg4 (own_ne hL hI (by decide)))
          go_roundw
          case rel => exact ⟨k + 1, g4, c4, by omega, by go_num, rfl, by rw [HS.out, HV.out, ← ints_snoc]; exact ho4, hL4, hb4⟩
          case measure => simp [intOf]; omega
        | false =>
          have HV : Hid (initV a k = 0) := Lib.hid (by unfold initV; rw [if_pos hlv, if_neg (by rw [hac]; simp)])
          rw [hac] at hca
          clear hlv hac
          go_wp2_with (at_builtin; refine wpList_app1 elInt rfl (.tmp 34) (.tmp 36) rfl (w.heap.size + 1) _ k _ rfl hI #[.int .i64 0] _ rfl (by simp) rfl (by simp [Value.oneCell']) (by omega) (by omega) hbs ?_; intro g4 c4 w4 ho4 hg4 _ _ _; have hb4 := hb.grown hg4 (by omega) (own_ge hI); have hL4 := hL.kept hg4 (own_ne hL hI (by decide)))
          go_roundw
          case rel => exact ⟨k + 1, g4, c4, by omega, by go_num, rfl, by rw [HS.out, HV.out, ← ints_snoc]; exact ho4, hL4, hb4⟩
          case measure => simp [intOf]; omega
    · obtain rfl : k = a.n := by omega
      clear hL
      have hI0 : wr.ownsRow (w.heap.size + 1) 3 1 (.slice (some ⟨g, 0, none⟩) a.n c) a.n (ints (clsN a 0)) := hI
      clear hI
      go_wp2_with fail
      clear f1 hPB2
      go_loopw [4, 7] (fun v4 v7 wr => ∃ m A c, m ≤ a.n + 1 ∧ v7 = .int .i64 (m : Nat) ∧ v4 = .slice A a.n c ∧ wr.ownsRow (w.heap.size + 1) 3 1 v4 a.n (ints (clsN a m)) ∧ Below (w.heap.size + 1) w1 wr) (fun _ b _ => a.n + 1 - (intOf b).toNat)
      case atStart => exact ⟨0, _, _, by omega, rfl, rfl, hI0, hb⟩
      case round =>
        clear hI0 hb hbs
        obtain ⟨m, A, c, hm, rfl, rfl, hI, hb⟩ := hrel
        have hPB2 := hPB1.below hb (by omega)
        have f1 := hPB2.cell 1
        simp at f1
        have hws := hb.size
        by_cases hmn : m ≤ a.n
        · obtain ⟨wo, rfl⟩ : ∃ wo : World, wo = wr := ⟨_, rfl⟩
          have hC2 : Sl wo (· < wo.heap.size) 1 A a.n (ints (clsN a m)) := Sl.of_own hI (fun b hb => (hI.lt b hb).2)
          have HSU0 := Lib.hid (clsN_succ a m)
          have HCF := Lib.hid (fun h => clsF_of (a := a) (m := m) (by omega) h)
          have hR0 : RfO wo wo.heap.size [] [(.slice (some ⟨wo.heap.size + 1, 0, none⟩) 0 0, [])] [] (.slice (some ⟨wo.heap.size, 0, none⟩) 0 0) ((wo.alloc (.cells #[] 24)).alloc (.cells #[] 3)) := by
            have h0 : RfO wo wo.heap.size [] [] [] (.slice (some ⟨wo.heap.size, 0, none⟩) 0 0) (wo.alloc (.cells #[] 24)) :=
              ⟨own0 rfl (Nat.le_refl _), IRows.nil_, rfl, below_alloc _ _, by simp⟩
            exact h0.new (by simp)
          have hPo : AutV wo (· < w.heap.size) (.agg #[.int .i64 a.start, .slice A1 a.n c1, .slice A2 a.n c2]) a := hP1.keep hb.size (fun b hb2 _ => hb.block b (by have hb2 : b < w.heap.size := hb2; omega))
          have HI := Lib.hid hI
          clear hI
          generalize hcl : clsN a m = cl at *
          have HCL := Lib.hid hcl; clear hcl
          go_wp2_with fail
          go_loopw [8, 9, 10] (fun vK vN i wr => ∃ k fin gK cK gN cN, k ≤ a.n ∧ i = .int .i64 (k : Nat) ∧ vK = .slice (some ⟨gK, 0, none⟩) (refTo a cl k).1.length cK ∧ vN = .slice (some ⟨gN, 0, none⟩) k cN ∧ RfO wo wo.heap.size (refTo a cl k).1 [(vN, (refTo a cl k).2)] fin vK wr) (fun _ _ i _ => a.n - (intOf i).toNat)
          case atStart => exact ⟨0, [], _, _, _, _, by omega, rfl, rfl, rfl, hR0⟩
          case round =>
            clear hR0 hPB2 f1
            obtain ⟨k, fin, gK, cK, gN, cN, hk, rfl, rfl, rfl, hR⟩ := hrel
            have hnl := Lib.hid (refTo_len (a := a) (cl := cl) k)
            have hnd := Lib.hid (refTo_nodup (a := a) (cl := cl) k)
            have HSU := Lib.hid (refTo_succ (a := a) (cl := cl) k)
            have hPB2 := hPB1.below (hb.trans (hR.below.mono (by omega))) (by omega)
            have f0 := hPB2.cell 0; have f1 := hPB2.cell 1; have f2 := hPB2.cell 2
            simp at f0 f1 f2
            have hsz := hR.size
            by_cases hlt : k < a.n
            · have hCw : Sl wr (· < wo.heap.size) 1 A a.n (ints cl) := hC2.keep hR.below.size (fun b hb _ => hR.below.block b (by omega))
              obtain ⟨bC, oC, rfl, _, _, hcC⟩ := hCw.int_at hlt
              generalize refTo a cl k = st at *
              have hstl : Hid (st.2.length = k) := Lib.hid hnl.out.1
              have hKl : st.1.length ≤ k := hnl.out.2
              clear hnl
              have hap : wr.ownsRow wo.heap.size 3 1 (.slice (some ⟨gN, 0, none⟩) k cN) k (ints st.2) := by have := IRows.head (L := fin) hR.rows; rwa [hstl.out] at this
              by_cases hc0 : cl[k]?.getD 0 < 0
              · have HS := Lib.hid (refStep_neg (a := a) (cl := cl) (st := st) (s := k) hc0)
                have hc0' : decide (cl[k]?.getD 0 < 0) = true := by simpa using hc0
                clear hc0
                generalize cl[k]?.getD 0 = c0 at *
                go_wp2_with (at_builtin; refine wpList_app1 elInt rfl (.tmp 59) (.tmp 60) rfl wo.heap.size _ k (ints st.2) rfl hap #[.int .i64 (-1)] _ rfl (by simp) rfl (by simp [Value.oneCell']) (by omega) (by omega) hsz ?_; intro g5 c5 w5 ho5 hg5 hb5 _ _; have hR5 := hR.app hstl.out.symm ho5 hg5 hb5)
                go_roundw
                case rel => exact ⟨k + 1, fin, gK, cK, g5, c5, by omega, by go_num, by rw [HSU.out, HS.out], rfl, by rw [HSU.out, HS.out]; exact hR5⟩
                case measure => simp [intOf]; omega
              · have hc0' : decide (cl[k]?.getD 0 < 0) = false := by simpa using hc0
                have HNW := Lib.hid (refStep_new (a := a) (cl := cl) (st := st) (s := k) hc0)
                have HOL := Lib.hid (refStep_old (a := a) (cl := cl) (st := st) (s := k) hc0)
                clear hc0 hap
                generalize hcl0 : cl[k]?.getD 0 = c0 at hcC hc0'
                clear hcl0
                have hPr : AutV wr (· < w.heap.size) (.agg #[.int .i64 a.start, .slice A1 a.n c1, .slice A2 a.n c2]) a := hPo.keep hR.below.size (fun b hb2 _ => hR.below.block b (by have hb2 : b < w.heap.size := hb2; omega))
                have hkl := keyTo_len a cl k 9
                go_wp2_with fail
                refine (l12Key_any a _ cl k (some ⟨bC, oC, none⟩) c wr _ _ hPr hf hCw hn hlt).mono ?_
                rintro e w4 ⟨vx, rfl, hx4, hbx4⟩
                obtain ⟨gx, cx, rfl, hgx, hlx⟩ := hx4.form (by omega)
                have hR4 : RfO wo wo.heap.size st.1 [(.slice (some ⟨gx, 0, none⟩) 10 cx, keyC a cl k), (.slice (some ⟨gN, 0, none⟩) k cN, st.2)] fin (.slice (some ⟨gK, 0, none⟩) st.1.length cK) w4 := by
                  refine hR.take hbx4 ?_ (by simp [Value.ownBlock])
                  have : (keyC a cl k).length = 10 := keyTo_len a cl k 9
                  rw [this]; exact hx4
                clear hbx4 hPr hkl
                have hSK := hR4.sls
                have hSx : Sl w4 (fun _ => True) 1 (some ⟨gx, 0, none⟩) 10 (ints (keyC a cl k)) := Sl.of_own hx4 (fun _ _ => trivial)
                clear hx4
                have hKl2 : st.1.length ≤ 1000 := by omega
                generalize keyC a cl k = ky at *
                go_wp2_with fail
                go_loopw [12, 13] (fun v12 v13 wr => ∃ j, j ≤ st.1.length ∧ v13 = .int .i64 (j : Nat) ∧ v12 = .int .i64 (lastTo ky st.1 j) ∧ Drew w4 wr) (fun _ b _ => st.1.length - (intOf b).toNat)
                case atStart => exact ⟨0, by omega, rfl, rfl, Drew.refl _⟩
                case round =>
                  obtain ⟨j, hj, rfl, rfl, d, rfl⟩ := hrel
                  have HLS := Lib.hid (lastTo_succ ky st.1 j)
                  by_cases hjl : j < st.1.length
                  · obtain ⟨b1, o1, Ar, mr, cr, hel, _, _, hc1, hm1, hr1⟩ := hSK.row_at hjl
                    injection hel with hel; injection hel with hel1 hel2; subst hel1 hel2
                    simp only [Nat.zero_add] at hc1
                    clear hm1
                    have hr1 : Sl (w4.drewN d) (wo.heap.size ≤ ·) 1 Ar mr (ints (st.1[j]?.getD [])) := hr1
                    have hx1 : Sl (w4.drewN d) (fun _ => True) 1 (some ⟨gx, 0, none⟩) 10 (ints ky) := hSx
                    generalize st.1[j]?.getD [] = row at *
                    by_cases hey : row = ky
                    · have hcz := (cmpI_zero row ky).2 hey
                      have HV : Hid (lastTo ky st.1 (j + 1) = (j : Int)) := Lib.hid (by rw [HLS.out, if_pos hey])
                      clear hey
                      go_wp2_with (go_at_call 31; refine (l2Cmp_any Ar (some ⟨gx, 0, none⟩) mr cr 10 cx row ky _ _ _ hr1 hx1).mono ?_; rintro e w5 ⟨rfl, d5, rfl⟩)
                      go_roundw
                      case rel => exact ⟨j + 1, by omega, by go_num, by rw [HV.out], by (try simp only [World.drewN_drewN]); exact Drew.mk _ _⟩
                      case measure => simp [intOf]; omega
                    · have hcz : (cmpI row ky == 0) = false := by simpa using fun e => hey ((cmpI_zero row ky).1 e)
                      have HV : Hid (lastTo ky st.1 (j + 1) = lastTo ky st.1 j) := Lib.hid (by rw [HLS.out, if_neg hey])
                      clear hey
                      go_wp2_with (go_at_call 31; refine (l2Cmp_any Ar (some ⟨gx, 0, none⟩) mr cr 10 cx row ky _ _ _ hr1 hx1).mono ?_; rintro e w5 ⟨rfl, d5, rfl⟩)
                      go_roundw
                      case rel => exact ⟨j + 1, by omega, by go_num, by rw [HV.out], by (try simp only [World.drewN_drewN]); exact Drew.mk _ _⟩
                      case measure => simp [intOf]; omega
                  · obtain rfl : j = st.1.length := by omega
                    have hR5 := hR4.drewN d
                    have hs5 := hR5.size
                    have hle := lastTo_eq (x := ky) hnd.out
                    rw [hle]
                    clear hle HLS
                    by_cases hfi : findG ky st.1 0 < 0
                    · have hfi' : decide (findG ky st.1 0 < 0) = true := by simpa using hfi
                      have HS : Hid (refStep a cl st k = (st.1 ++ [ky], st.2 ++ [(st.1.length : Int)])) := Lib.hid (HNW.out hfi)
                      clear hfi
                      go_wp2_with (first
                        | (at_builtin; refine wpList_app1 elRow rfl (.tmp 84) (.tmp 86) rfl wo.heap.size _ st.1.length (fin.map Prod.fst) rfl hR5.keys #[.slice (some ⟨gx, 0, none⟩) 10 cx] _ rfl (by simp) rfl (by simp [Value.oneCell']) (by omega) (by omega) hs5 ?_; intro g6 c6 w6 ho6 hg6 hb6 _ _; have hR6 := hR5.push ho6 hg6; have hs6 := hR6.size)
                        | (at_builtin; refine wpList_app1 elInt rfl (.tmp 88) (.tmp 90) rfl wo.heap.size _ k (ints st.2) rfl (by have := IRows.head (L := fin ++ [(.slice (some ⟨gx, 0, none⟩) 10 cx, ky)]) hR6.rows; rwa [hstl.out] at this) #[.int .i64 (st.1.length : Nat)] _ rfl (by simp) rfl (by simp [Value.oneCell']) (by omega) (by omega) hs6 ?_; intro g7 c7 w7 ho7 hg7 hb7 _ _; have hR7 := hR6.app hstl.out.symm ho7 hg7 hb7))
                      go_roundw
                      case rel => exact ⟨k + 1, fin ++ [(.slice (some ⟨gx, 0, none⟩) 10 cx, ky)], g6, c6, g7, c7, by omega, by go_num, by rw [HSU.out, HS.out]; simp, rfl, by rw [HSU.out, HS.out]; exact hR7⟩
                      case measure => simp [intOf]; omega
                    · have hfi' : decide (findG ky st.1 0 < 0) = false := by simpa using hfi
                      have HS : Hid (refStep a cl st k = (st.1, st.2 ++ [findG ky st.1 0])) := Lib.hid (HOL.out (by omega))
                      have hR6 := hR5.drop
                      clear hfi
                      go_wp2_with (at_builtin; refine wpList_app1 elInt rfl (.tmp 88) (.tmp 90) rfl wo.heap.size _ k (ints st.2) rfl (by have := IRows.head (L := fin) hR6.rows; rwa [hstl.out] at this) #[.int .i64 (findG ky st.1 0)] _ rfl (by simp) rfl (by simp [Value.oneCell']) (by omega) (by omega) hs5 ?_; intro g7 c7 w7 ho7 hg7 hb7 _ _; have hR7 := hR6.app hstl.out.symm ho7 hg7 hb7)
                      go_roundw
                      case rel => exact ⟨k + 1, fin, gK, cK, g7, c7, by omega, by go_num, by rw [HSU.out, HS.out], rfl, by rw [HSU.out, HS.out]; exact hR7⟩
                      case measure => simp [intOf]; omega
            · obtain rfl : k = a.n := by omega
              have HRR : Hid (clsN a (m + 1) = (refTo a cl a.n).2) := Lib.hid (by rw [HSU0.out]; rfl)
              have hap : wr.ownsRow wo.heap.size 3 1 (.slice (some ⟨gN, 0, none⟩) a.n cN) a.n (ints (refTo a cl a.n).2) := by have := IRows.head (L := fin) hR.rows; rwa [hnl.out.1] at this
              have hCw : Sl wr (· < wo.heap.size) 1 A a.n (ints cl) := hC2.keep hR.below.size (fun b hb _ => hR.below.block b (by omega))
              have hSn : Sl wr (fun _ => True) 1 (some ⟨gN, 0, none⟩) a.n (ints (refTo a cl a.n).2) := Sl.of_own hap (fun _ _ => trivial)
              have hb2 := hb.trans (hR.below.mono (by omega))
              have hRb := hR.below
              generalize (refTo a cl a.n).2 = nx at *
              by_cases hey : nx = cl
              · have hcz := (cmpI_zero nx cl).2 hey
                have HC : Hid (clsF a = cl) := Lib.hid (HCF.out (by rw [HRR.out, hey]))
                clear hey hR
                go_wp2_with (go_at_call 31; refine (l2Cmp_any (some ⟨gN, 0, none⟩) A a.n cN a.n c nx cl _ _ _ hSn hCw).mono ?_; rintro e w5 ⟨rfl, d5, rfl⟩)
                go_ret
                exact ⟨_, rfl, by rw [HC.out]; exact (own_bel HI.out (below_drewN hRb d5)).mono (by omega), hbz.trans ((below_drewN hb2 d5).mono (by omega))⟩
              · have hcz : (cmpI nx cl == 0) = false := by simpa using fun e => hey ((cmpI_zero nx cl).1 e)
                clear hey hR
                go_wp2_with (go_at_call 31; refine (l2Cmp_any (some ⟨gN, 0, none⟩) A a.n cN a.n c nx cl _ _ _ hSn hCw).mono ?_; rintro e w5 ⟨rfl, d5, rfl⟩)
                go_roundw
                case rel => exact ⟨m + 1, _, cN, by omega, by go_num, rfl, by rw [HRR.out]; exact own_drewN (hap.mono (by omega)) d5, below_drewN hb2 d5⟩
                case measure => simp [intOf]; omega
        · obtain rfl : m = a.n + 1 := by omega
          have HF : Hid (clsF a = clsN a (a.n + 1)) := Lib.hid rfl
          go_wp2
          go_ret
          exact ⟨_, rfl, by rw [HF.out]; exact hI.mono (by omega), hbz.trans (hb.mono (by omega))⟩
end Go.Proofs.YtmnhpbbapkcdjaaGreat

/- Walks: minimization, the functions of the statement. -/
namespace Go.Proofs.YtmnhpbbapkcdjaaGreat
open Go.RowKit

noncomputable def minS (a : Aut) : Aut := numAut a (clsF a) (liveF a)
noncomputable def minIT (a : Aut) : Aut := if validB a = true then minI a else zeroAut
noncomputable def minST (a : Aut) : Aut := if validB a = true then minS a else zeroAut

theorem refTo_nonneg {a : Aut} {cl : List Int} {s n : Nat} (h : s < n) : 0 ≤ (refTo a cl n).2[s]?.getD 0 ↔ 0 ≤ cl[s]?.getD 0 := by
  by_cases h0 : cl[s]?.getD 0 < 0
  · have := refTo_at (a := a) (cl := cl) (v := -1) h (by rw [refStep_neg h0])
    rw [this]; omega
  · by_cases hf : findG (keyC a cl s) (refTo a cl s).1 0 < 0
    · have := refTo_at (a := a) (cl := cl) (v := ((refTo a cl s).1.length : Nat)) h (by rw [refStep_new h0 hf])
      rw [this]; omega
    · have := refTo_at (a := a) (cl := cl) (v := findG (keyC a cl s) (refTo a cl s).1 0) h (by rw [refStep_old h0 hf])
      rw [this]; omega
theorem clsN_nonneg {a : Aut} {s : Nat} (h : s < a.n) : ∀ m, 0 ≤ (clsN a m)[s]?.getD 0 ↔ (liveF a)[s]?.getD false = true
  | 0 => by
    show 0 ≤ (initTo a a.n)[s]?.getD 0 ↔ _
    have : (initTo a a.n)[s]?.getD 0 = initV a s := by simp [initTo, h]
    rw [this]
    unfold initV
    by_cases hl : (liveF a)[s]?.getD false = true
    · rw [if_pos hl]; split <;> simp [hl]
    · rw [if_neg hl]; simp [hl]
  | m + 1 => by rw [clsN_succ]; exact (refTo_nonneg h).trans (clsN_nonneg h m)
theorem clsF_nonneg {a : Aut} {s : Nat} (h : s < a.n) : 0 ≤ (clsF a)[s]?.getD 0 ↔ (liveF a)[s]?.getD false = true := clsN_nonneg h _
theorem clsF_at {a : Aut} {s : Nat} (h : s < a.n) : (clsF a)[s]?.getD 0 < a.n := (clsF_rng (clsF_mem h)).2

theorem implMin_any (a : Aut) (v : Value) (w : World) (p : Nat → Prop) (h : AutV w p v a) :
    Calls Tryz.prog 15 #[v] w fun e w' => AutRes w w' (minIT a) e := by
  obtain ⟨A1, n1, c1, A2, n2, c2, rfl, _, _⟩ := id h
  have hP := (h.alloc (.cells #[.int .i64 a.start, .slice A1 n1 c1, .slice A2 n2 c2] 31)).alloc (.cells #[.int .i64 0, .slice none 0 0, .slice none 0 0] 31)
  have hB := (Blk.new w 31 #[.int .i64 a.start, .slice A1 n1 c1, .slice A2 n2 c2]).alloc (.cells #[.int .i64 0, .slice none 0 0, .slice none 0 0] 31)
  have hR : Blk ((w.alloc (.cells #[.int .i64 a.start, .slice A1 n1 c1, .slice A2 n2 c2] 31)).alloc (.cells #[.int .i64 0, .slice none 0 0, .slice none 0 0] 31)) (w.heap.size + 1) 31 #[.int .i64 0, .slice none 0 0, .slice none 0 0] := by
    have := Blk.new (w.alloc (.cells #[.int .i64 a.start, .slice A1 n1 c1, .slice A2 n2 c2] 31)) 31 #[.int .i64 0, .slice none 0 0, .slice none 0 0]
    rwa [size_alloc] at this
  have hW := below_alloc2 w (.cells #[.int .i64 a.start, .slice A1 n1 c1, .slice A2 n2 c2] 31) (.cells #[.int .i64 0, .slice none 0 0, .slice none 0 0] 31)
  go_enter Tryz.func15, Tryz.ntmps15
  go_wp2_with fail
  refine (implValid_any a _ _ p hP).mono ?_; rintro e w1 ⟨rfl, hb1⟩
  have hR1 := hR.below hb1 hR.lt
  have q0 := hR1.cell 0; have q1 := hR1.cell 1; have q2 := hR1.cell 2
  have hB1 := hB.below hb1 hB.lt
  have f0 := hB1.cell 0; have f1 := hB1.cell 1; have f2 := hB1.cell 2
  simp at q0 q1 q2 f0 f1 f2
  have z0 := hR1.frozen 0; have z1 := hR1.frozen 1; have z2 := hR1.frozen 2
  have hbz : Below w.heap.size w w1 := hW.trans (hb1.mono (by simp; omega))
  have hsz : w.heap.size + 1 + 1 ≤ w1.heap.size := by have := hb1.size; simp at this; omega
  have hP1 := hP.below hb1
  cases hV : validB a with
  | false =>
    have HE : Hid (minIT a = zeroAut) := Lib.hid (by unfold minIT; rw [if_neg (by rw [hV]; simp)])
    go_wp2
    refine bodyPost_ret (v := .agg #[.int .i64 0, .slice none 0 0, .slice none 0 0]) (by simp [results, Tryz.results15, go_sem, q0, q1, q2]) rfl ?_
    rw [HE.out]
    exact AutRes.zero hbz (by omega)
  | true =>
    have hok := validB_iff.1 hV
    have HE : Hid (minIT a = minI a) := Lib.hid (by unfold minIT; rw [if_pos hV])
    go_wp2_with fail
    refine (minimize_any a _ w1 p hP1 hok.2 (by omega)).mono ?_
    rintro e w2 ⟨v1, rfl, hA, hb2⟩
    obtain ⟨A3, n3, c3, A4, n4, c4, hv1, _, _⟩ := id hA
    have hR2 := hR1.below hb2 hR1.lt
    have r0 := hR2.cell 0; have r1 := hR2.cell 1; have r2 := hR2.cell 2
    simp at r0 r1 r2
    have y0 := hR2.frozen 0; have y1 := hR2.frozen 1; have y2 := hR2.frozen 2
    have hbz2 : Below w.heap.size w w2 := hbz.trans (hb2.mono (by omega))
    have hsz2 : w.heap.size + 1 + 1 ≤ w2.heap.size := Nat.le_trans hsz hb2.size
    rw [← HE.out] at hA hv1
    subst hv1
    clear hb1 hb2 hP hP1 hB hB1 hR hR1 hW q0 q1 q2 z0 z1 z2 hok f0 f1 f2
    go_wp2
    refine bodyPost_ret (v := .agg #[.int .i64 (minIT a).start, .slice A3 n3 c3, .slice A4 n4 c4]) (by simp [results, Tryz.results15, go_sem, r0, r1, r2]) rfl ?_
    exact AutRes.set3 hA (by omega) hbz2 (by omega)


set_option maxHeartbeats 1000000 in
set_option maxRecDepth 100000 in
theorem l12Min_any (a : Aut) (v : Value) (w : World) (p : Nat → Prop) (h : AutV w p v a) (hf : a.Fits) (hn : a.n ≤ 1000) :
    Calls Tryz.prog 43 #[v] w fun e w' => AutRes w w' (minS a) e := by
  obtain ⟨A1, c1, A2, c2, rfl, _, _⟩ := h.fit hf
  have hP := (h.alloc (.cells #[.int .i64 a.start, .slice A1 a.n c1, .slice A2 a.n c2] 31)).alloc (.cells #[.int .i64 0, .slice none 0 0, .slice none 0 0] 31)
  have hB := (Blk.new w 31 #[.int .i64 a.start, .slice A1 a.n c1, .slice A2 a.n c2]).alloc (.cells #[.int .i64 0, .slice none 0 0, .slice none 0 0] 31)
  have hR : Blk ((w.alloc (.cells #[.int .i64 a.start, .slice A1 a.n c1, .slice A2 a.n c2] 31)).alloc (.cells #[.int .i64 0, .slice none 0 0, .slice none 0 0] 31)) (w.heap.size + 1) 31 #[.int .i64 0, .slice none 0 0, .slice none 0 0] := by
    have := Blk.new (w.alloc (.cells #[.int .i64 a.start, .slice A1 a.n c1, .slice A2 a.n c2] 31)) 31 #[.int .i64 0, .slice none 0 0, .slice none 0 0]
    rwa [size_alloc] at this
  have hW := below_alloc2 w (.cells #[.int .i64 a.start, .slice A1 a.n c1, .slice A2 a.n c2] 31) (.cells #[.int .i64 0, .slice none 0 0, .slice none 0 0] 31)
  obtain ⟨wr, hwr⟩ : ∃ wr, wr = (w.alloc (.cells #[.int .i64 a.start, .slice A1 a.n c1, .slice A2 a.n c2] 31)).alloc (.cells #[.int .i64 0, .slice none 0 0, .slice none 0 0] 31) := ⟨_, rfl⟩
  have hws : wr.heap.size = w.heap.size + 1 + 1 := by rw [hwr, size_alloc, size_alloc]
  rw [← hwr] at hP hB hR hW
  have f0 := hB.cell 0; have f1 := hB.cell 1; have f2 := hB.cell 2
  simp at f0 f1 f2
  go_enter Tryz.func43, Tryz.ntmps43
  go_upto_region 1 with fail
  rw [← hwr]
  clear hwr
  have hS0 : (fun w' : World => w'.cell? ⟨w.heap.size, 0, none⟩ = some (.int .i64 a.start) ∧ w'.cell? ⟨w.heap.size, 1, none⟩ = some (.slice A1 a.n c1) ∧ w'.cell? ⟨w.heap.size, 2, none⟩ = some (.slice A2 a.n c2)) wr.drew := ⟨f0, f1, f2⟩
  refine wp_region_X (fun w' : World => w'.cell? ⟨w.heap.size, 0, none⟩ = some (.int .i64 a.start) ∧ w'.cell? ⟨w.heap.size, 1, none⟩ = some (.slice A1 a.n c1) ∧ w'.cell? ⟨w.heap.size, 2, none⟩ = some (.slice A2 a.n c2)) 6 (by kernel_rfl) ?_
  (refine wpX_take (i := 0) (v := ?_) (by simp only [List.getElem?_toArray, List.getElem?_cons_succ, List.getElem?_cons_zero]; rfl) (by kernel_rfl) (by kernel_rfl) (by kernel_rfl) (by kernel_rfl) (by exact fun _ _ _ h => h) (Or.inl ⟨by rfl, ?_⟩) (by assumption) ?_; rotate_left; (intro w hSw; (try dsimp only at hSw); go_simp); (try with_reducible rfl); (try simp only [Act.put, List.setIfInBounds_toArray, List.set_cons_zero, List.set_cons_succ]))
  (refine wpX_take (i := 1) (v := ?_) (by simp only [List.getElem?_toArray, List.getElem?_cons_succ, List.getElem?_cons_zero]; rfl) (by kernel_rfl) (by kernel_rfl) (by kernel_rfl) (by kernel_rfl) (by exact fun _ _ _ h => h) (Or.inl ⟨by rfl, ?_⟩) (by assumption) ?_; rotate_left; (intro w hSw; (try dsimp only at hSw); go_simp); (try with_reducible rfl); (try simp only [Act.put, List.setIfInBounds_toArray, List.set_cons_zero, List.set_cons_succ]))
  (refine wpX_take (i := 3) (v := ?_) (by simp only [List.getElem?_toArray, List.getElem?_cons_succ, List.getElem?_cons_zero]; rfl) (by kernel_rfl) (by kernel_rfl) (by kernel_rfl) (by kernel_rfl) (by exact fun _ _ _ h => h) (Or.inl ⟨by rfl, ?_⟩) (by assumption) ?_; rotate_left; (intro w hSw; (try dsimp only at hSw); go_simp); (try with_reducible rfl); (try simp only [Act.put, List.setIfInBounds_toArray, List.set_cons_zero, List.set_cons_succ]))
  refine wpX_one (i := 2) (by kernel_rfl) (by simp only [List.getElem?_toArray, List.getElem?_cons_succ, List.getElem?_cons_zero]; rfl) (fun K hK => ?_)
  go_simp
  refine (l12Classes_any a _ _ _ hP.drew hf hn).mono ?_
  rintro e w3 ⟨vc, rfl, hown3, hb3⟩
  obtain ⟨Ac, cc, rfl⟩ := own_form hown3
  have hB3 : Blk w3 w.heap.size 31 #[.int .i64 a.start, .slice A1 a.n c1, .slice A2 a.n c2] := Blk.below (w := wr.drew) hB hb3 hB.lt
  have hR3 : Blk w3 (w.heap.size + 1) 31 #[.int .i64 0, .slice none 0 0, .slice none 0 0] := Blk.below (w := wr.drew) hR hb3 hR.lt
  have hP3 := hP.drew.below hb3
  have hC3 : Sl w3 (fun _ => True) 1 Ac a.n (ints (clsF a)) := Sl.of_own hown3 (fun _ _ => trivial)
  have s1 : (fun w' : World => w'.cell? ⟨w.heap.size, 0, none⟩ = some (.int .i64 a.start) ∧ w'.cell? ⟨w.heap.size, 1, none⟩ = some (.slice A1 a.n c1) ∧ w'.cell? ⟨w.heap.size, 2, none⟩ = some (.slice A2 a.n c2)) w3 := ⟨hB3.cell 0, hB3.cell 1, hB3.cell 2⟩
  (refine hK.out _ _ (Or.inr s1) ?_; clear hK; (try simp only [Act.put, List.setIfInBounds_toArray, List.set_cons_zero, List.set_cons_succ]))
  refine wpX_one (i := 4) (by kernel_rfl) (by simp only [List.getElem?_toArray, List.getElem?_cons_succ, List.getElem?_cons_zero]; rfl) (fun K hK => ?_)
  go_simp
  refine (l11Live_any a _ _ _ hP3 hf hn).mono ?_
  rintro e w4 ⟨g4, cap4, rfl, hown4, hb4⟩
  have hB4 := hB3.below hb4 hB3.lt
  have hR4 := hR3.below hb4 hR3.lt
  have hP4 := hP3.below hb4
  have hC4 := hC3.below hb4 (fun b _ h => h)
  have hL4 : Sl w4 (fun _ => True) 1 (some ⟨g4, 0, none⟩) a.n (bools (liveF a)) := Sl.of_own hown4 (fun _ _ => trivial)
  have s2 : (fun w' : World => w'.cell? ⟨w.heap.size, 0, none⟩ = some (.int .i64 a.start) ∧ w'.cell? ⟨w.heap.size, 1, none⟩ = some (.slice A1 a.n c1) ∧ w'.cell? ⟨w.heap.size, 2, none⟩ = some (.slice A2 a.n c2)) w4 := ⟨hB4.cell 0, hB4.cell 1, hB4.cell 2⟩
  (refine hK.out _ _ (Or.inr s2) ?_; clear hK; (try simp only [Act.put, List.setIfInBounds_toArray, List.set_cons_zero, List.set_cons_succ]))
  refine wpX_one (i := 5) (by kernel_rfl) (by simp only [List.getElem?_toArray, List.getElem?_cons_succ, List.getElem?_cons_zero]; rfl) (fun K hK => ?_)
  go_simp
  refine (l11Number_any a _ (clsF a) (liveF a) _ _ cc cap4 w4 _ _ _ hP4 hf hC4 hL4 hn (fun s hs hl => ⟨(clsF_nonneg hs).2 hl, clsF_at hs⟩)).mono ?_
  rintro e w5 ⟨v1, rfl, hA, hb5⟩
  obtain ⟨A3, n3, c3, A4, n4, c4, hv1, _, _⟩ := id hA
  subst hv1
  have hB5 := hB4.below hb5 hB4.lt
  have s3 : (fun w' : World => w'.cell? ⟨w.heap.size, 0, none⟩ = some (.int .i64 a.start) ∧ w'.cell? ⟨w.heap.size, 1, none⟩ = some (.slice A1 a.n c1) ∧ w'.cell? ⟨w.heap.size, 2, none⟩ = some (.slice A2 a.n c2)) w5 := ⟨hB5.cell 0, hB5.cell 1, hB5.cell 2⟩
  (refine hK.out _ _ (Or.inr s3) ?_; clear hK; (try simp only [Act.put, List.setIfInBounds_toArray, List.set_cons_zero, List.set_cons_succ]))
  have hR5 := hR4.below hb5 hR4.lt
  have r0 := hR5.cell 0; have r1 := hR5.cell 1; have r2 := hR5.cell 2
  simp at r0 r1 r2
  have y0 := hR5.frozen 0; have y1 := hR5.frozen 1; have y2 := hR5.frozen 2
  have hb3' : Below w.heap.size wr w3 := ((Below.refl wr.heap.size wr).drew.trans hb3).mono (by omega)
  have h3 : wr.heap.size ≤ w3.heap.size := hb3.size
  have h4 : w3.heap.size ≤ w4.heap.size := hb4.size
  have hbz5 : Below w.heap.size w w5 := ((hW.trans hb3').trans (hb4.mono (by omega))).trans (hb5.mono (by omega))
  have HE : Hid (minS a = numAut a (clsF a) (liveF a)) := Lib.hid rfl
  refine wpX_one (i := 6) (by kernel_rfl) (by simp only [List.getElem?_toArray, List.getElem?_cons_succ, List.getElem?_cons_zero]; rfl) (fun K hK => ?_)
  go_simp
  (refine hK.out _ _ (Or.inl rfl) ?_; clear hK; (try simp only [Act.put, List.setIfInBounds_toArray, List.set_cons_zero, List.set_cons_succ]))
  refine wpX_done (by kernel_rfl) ?_ _
  go_wp2
  refine bodyPost_ret (v := .agg #[.int .i64 (numAut a (clsF a) (liveF a)).start, .slice A3 n3 c3, .slice A4 n4 c4]) (by simp [results, Tryz.results43, go_sem, r0, r1, r2]) rfl ?_
  rw [HE.out]
  exact AutRes.set3 hA (by omega) hbz5 (by omega)

theorem specMin_any (a : Aut) (v : Value) (w : World) (p : Nat → Prop) (h : AutV w p v a) :
    Calls Tryz.prog 17 #[v] w fun e w' => AutRes w w' (minST a) e := by
  obtain ⟨A1, n1, c1, A2, n2, c2, rfl, _, _⟩ := id h
  have hP := (h.alloc (.cells #[.int .i64 a.start, .slice A1 n1 c1, .slice A2 n2 c2] 31)).alloc (.cells #[.int .i64 0, .slice none 0 0, .slice none 0 0] 31)
  have hB := (Blk.new w 31 #[.int .i64 a.start, .slice A1 n1 c1, .slice A2 n2 c2]).alloc (.cells #[.int .i64 0, .slice none 0 0, .slice none 0 0] 31)
  have hR : Blk ((w.alloc (.cells #[.int .i64 a.start, .slice A1 n1 c1, .slice A2 n2 c2] 31)).alloc (.cells #[.int .i64 0, .slice none 0 0, .slice none 0 0] 31)) (w.heap.size + 1) 31 #[.int .i64 0, .slice none 0 0, .slice none 0 0] := by
    have := Blk.new (w.alloc (.cells #[.int .i64 a.start, .slice A1 n1 c1, .slice A2 n2 c2] 31)) 31 #[.int .i64 0, .slice none 0 0, .slice none 0 0]
    rwa [size_alloc] at this
  have hW := below_alloc2 w (.cells #[.int .i64 a.start, .slice A1 n1 c1, .slice A2 n2 c2] 31) (.cells #[.int .i64 0, .slice none 0 0, .slice none 0 0] 31)
  go_enter Tryz.func17, Tryz.ntmps17
  go_wp2_with fail
  refine (specValid_any a _ _ p hP).mono ?_; rintro e w1 ⟨rfl, hb1⟩
  have hR1 := hR.below hb1 hR.lt
  have q0 := hR1.cell 0; have q1 := hR1.cell 1; have q2 := hR1.cell 2
  have hB1 := hB.below hb1 hB.lt
  have f0 := hB1.cell 0; have f1 := hB1.cell 1; have f2 := hB1.cell 2
  simp at q0 q1 q2 f0 f1 f2
  have z0 := hR1.frozen 0; have z1 := hR1.frozen 1; have z2 := hR1.frozen 2
  have hbz : Below w.heap.size w w1 := hW.trans (hb1.mono (by simp; omega))
  have hsz : w.heap.size + 1 + 1 ≤ w1.heap.size := by have := hb1.size; simp at this; omega
  have hP1 := hP.below hb1
  cases hV : validB a with
  | false =>
    have HE : Hid (minST a = zeroAut) := Lib.hid (by unfold minST; rw [if_neg (by rw [hV]; simp)])
    go_wp2
    refine bodyPost_ret (v := .agg #[.int .i64 0, .slice none 0 0, .slice none 0 0]) (by simp [results, Tryz.results17, go_sem, q0, q1, q2]) rfl ?_
    rw [HE.out]
    exact AutRes.zero hbz (by omega)
  | true =>
    have hok := validB_iff.1 hV
    have HE : Hid (minST a = minS a) := Lib.hid (by unfold minST; rw [if_pos hV])
    go_wp2_with fail
    refine (l12Min_any a _ w1 p hP1 hok.2 (by omega)).mono ?_
    rintro e w2 ⟨v1, rfl, hA, hb2⟩
    obtain ⟨A3, n3, c3, A4, n4, c4, hv1, _, _⟩ := id hA
    have hR2 := hR1.below hb2 hR1.lt
    have r0 := hR2.cell 0; have r1 := hR2.cell 1; have r2 := hR2.cell 2
    simp at r0 r1 r2
    have y0 := hR2.frozen 0; have y1 := hR2.frozen 1; have y2 := hR2.frozen 2
    have hbz2 : Below w.heap.size w w2 := hbz.trans (hb2.mono (by omega))
    have hsz2 : w.heap.size + 1 + 1 ≤ w2.heap.size := Nat.le_trans hsz hb2.size
    rw [← HE.out] at hA hv1
    subst hv1
    clear hb1 hb2 hP hP1 hB hB1 hR hR1 hW q0 q1 q2 z0 z1 z2 hok f0 f1 f2
    go_wp2
    refine bodyPost_ret (v := .agg #[.int .i64 (minST a).start, .slice A3 n3 c3, .slice A4 n4 c4]) (by simp [results, Tryz.results17, go_sem, r0, r1, r2]) rfl ?_
    exact AutRes.set3 hA (by omega) hbz2 (by omega)

end Go.Proofs.YtmnhpbbapkcdjaaGreat
