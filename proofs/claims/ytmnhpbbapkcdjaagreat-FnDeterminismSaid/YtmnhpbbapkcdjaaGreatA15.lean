/- Walks: one step of the positions' sets in the program; acceptance; Walks: valid positions; Walks: words; a word is matched by positions. No condition. -/
import Derived.Test.YtmnhpbbapkcdjaaGreatA14
import Derived.Deep.RegionHeld3

/- Walks: one step of the positions' sets in the program; acceptance. -/
namespace Go.Proofs.YtmnhpbbapkcdjaaGreat
open Go.RowKit

set_option maxRecDepth 100000 in
theorem implAfter_any (a : Pos) (v : Value) (set letter : Int) (w : World) (p : Nat → Prop) (h : PosV w p v a) (hf : a.follow.length = a.n) (hn : a.n ≤ 20) :
    Calls Tryz.prog 61 #[v, .int .i64 set, .int .i64 letter] w fun e w' => e = .returned (.int .i64 (afterI a set letter)) ∧ Below w.heap.size w w' := by
  obtain ⟨A1, c1, A2, c2, rfl, h1, h2⟩ := h.fit hf
  have h1 := h1.alloc (.cells #[.slice A1 a.n c1, .int .i64 a.first, .int .i64 a.last, .slice A2 a.n c2, .bool a.nullable] 26)
  have h2 := h2.alloc (.cells #[.slice A1 a.n c1, .int .i64 a.first, .int .i64 a.last, .slice A2 a.n c2, .bool a.nullable] 26)
  have hb := below_alloc w (.cells #[.slice A1 a.n c1, .int .i64 a.first, .int .i64 a.last, .slice A2 a.n c2, .bool a.nullable] 26)
  clear hf
  cases hs : (bits BinOp.and IntKind.i64 set 1 == 1)
  all_goals
    have HS := Lib.hid hs
    go_enter Tryz.func61, Tryz.ntmps61
    go_wp2
    go_loop [7, 21] (fun m i => ∃ k : Nat, k ≤ a.n ∧ i = .int .i64 k ∧ m = .int .i64 (upto (afStep a set) (afM0 a set) k)) (fun _ i => a.n - (intOf i).toNat)
    case atStart => exact ⟨0, Nat.zero_le _, rfl, by rw [show upto (afStep a set) (afM0 a set) 0 = afM0 a set from rfl]; unfold afM0; rw [HS.out]; rfl⟩
    case round =>
      obtain ⟨k, hk, rfl, rfl⟩ := hrel
      by_cases hlt : k < a.n
      · obtain ⟨b, off, rfl, _, _, hc⟩ := h2.int_at hlt
        cases hbt : (bits BinOp.and IntKind.i64 (set / 2 ^ (k + 1)) 1 == 1) with
        | true =>
          have Hs := Lib.hid (afStep_yes (a := a) (m := upto (afStep a set) (afM0 a set) k) hbt)
          go_wp2
          go_round
          case rel => exact ⟨k + 1, by omega, by go_num, by rw [show upto (afStep a set) (afM0 a set) (k + 1) = afStep a set (upto (afStep a set) (afM0 a set) k) k from rfl, Hs.out]⟩
          case measure => simp [intOf]; omega
        | false =>
          have Hs := Lib.hid (afStep_no (a := a) (m := upto (afStep a set) (afM0 a set) k) hbt)
          go_wp2
          go_round
          case rel => exact ⟨k + 1, by omega, by go_num, by rw [show upto (afStep a set) (afM0 a set) (k + 1) = afStep a set (upto (afStep a set) (afM0 a set) k) k from rfl, Hs.out]⟩
          case measure => simp [intOf]; omega
      · obtain rfl : k = a.n := by omega
        have HM : Hid (upto (afStep a set) (afM0 a set) a.n = afM a set) := Lib.hid rfl
        rw [HM.out]
        go_wp2
        go_loop [10, 39] (fun o i => ∃ k : Nat, k ≤ a.n ∧ i = .int .i64 k ∧ o = .int .i64 (upto (ouStep a (afM a set) letter) 0 k)) (fun _ i => a.n - (intOf i).toNat)
        case atStart => exact ⟨0, Nat.zero_le _, rfl, rfl⟩
        case round =>
          obtain ⟨k, hk, rfl, rfl⟩ := hrel
          by_cases hlt : k < a.n
          · obtain ⟨b, off, rfl, _, _, hc⟩ := h1.int_at hlt
            by_cases hl : a.letters[k]?.getD 0 = letter
            · have hl' : (a.letters[k]?.getD 0 == letter) = true := by simpa using hl
              cases hbt : (bits BinOp.and IntKind.i64 (afM a set / 2 ^ k) 1 == 1) with
              | true =>
                have Hs := Lib.hid (ouStep_yes (o := upto (ouStep a (afM a set) letter) 0 k) hl hbt)
                clear hl
                go_wp2
                go_round
                case rel => exact ⟨k + 1, by omega, by go_num, by rw [show upto (ouStep a (afM a set) letter) 0 (k + 1) = ouStep a (afM a set) letter (upto (ouStep a (afM a set) letter) 0 k) k from rfl, Hs.out]⟩
                case measure => simp [intOf]; omega
              | false =>
                have Hs := Lib.hid (ouStep_no2 (a := a) (letter := letter) (o := upto (ouStep a (afM a set) letter) 0 k) hbt)
                clear hl
                go_wp2
                go_round
                case rel => exact ⟨k + 1, by omega, by go_num, by rw [show upto (ouStep a (afM a set) letter) 0 (k + 1) = ouStep a (afM a set) letter (upto (ouStep a (afM a set) letter) 0 k) k from rfl, Hs.out]⟩
                case measure => simp [intOf]; omega
            · have Hs := Lib.hid (ouStep_no1 (m := afM a set) (o := upto (ouStep a (afM a set) letter) 0 k) hl)
              have hl' : (a.letters[k]?.getD 0 == letter) = false := by simpa using hl
              clear hl
              go_wp2
              go_round
              case rel => exact ⟨k + 1, by omega, by go_num, by rw [show upto (ouStep a (afM a set) letter) 0 (k + 1) = ouStep a (afM a set) letter (upto (ouStep a (afM a set) letter) 0 k) k from rfl, Hs.out]⟩
              case measure => simp [intOf]; omega
          · obtain rfl : k = a.n := by omega
            go_wp2
            go_ret
            exact ⟨rfl, hb⟩

theorem l10Accepts_any (a : Pos) (v : Value) (set : Int) (w : World) (p : Nat → Prop) (h : PosV w p v a) :
    Calls Tryz.prog 37 #[v, .int .i64 set] w fun e w' => e = .returned (.bool (accI a set)) ∧ Below w.heap.size w w' := by
  obtain ⟨A1, n1, c1, A2, n2, c2, rfl, h1, h2⟩ := h
  have hb := below_alloc w (.cells #[.slice A1 n1 c1, .int .i64 a.first, .int .i64 a.last, .slice A2 n2 c2, .bool a.nullable] 26)
  clear h1 h2
  cases hs : (bits BinOp.and IntKind.i64 set 1 == 1)
  · have He : Hid (accI a set = (bits BinOp.and IntKind.i64 (set / 2) a.last != 0)) := Lib.hid (by unfold accI andI; rw [hs]; simp)
    go_enter Tryz.func37, Tryz.ntmps37
    go_wp2
    go_ret
    exact ⟨by rw [He.out]; rfl, hb⟩
  · cases hz : a.nullable
    · have He : Hid (accI a set = (bits BinOp.and IntKind.i64 (set / 2) a.last != 0)) := Lib.hid (by unfold accI andI; rw [hs, hz]; simp)
      rw [hz] at hb
      go_enter Tryz.func37, Tryz.ntmps37
      go_wp2
      go_ret
      exact ⟨by rw [He.out]; rfl, hb⟩
    · have He : Hid (accI a set = true) := Lib.hid (by unfold accI andI; rw [hs, hz]; simp)
      rw [hz] at hb
      go_enter Tryz.func37, Tryz.ntmps37
      go_wp2
      go_ret
      exact ⟨by rw [He.out]; rfl, hb⟩

theorem implAcc_any (a : Pos) (v : Value) (set : Int) (w : World) (p : Nat → Prop) (h : PosV w p v a) :
    Calls Tryz.prog 59 #[v, .int .i64 set] w fun e w' => e = .returned (.bool (accI a set)) ∧ Below w.heap.size w w' := by
  obtain ⟨A1, n1, c1, A2, n2, c2, rfl, h1, h2⟩ := h
  have hb := below_alloc w (.cells #[.slice A1 n1 c1, .int .i64 a.first, .int .i64 a.last, .slice A2 n2 c2, .bool a.nullable] 26)
  clear h1 h2
  cases hs : (bits BinOp.and IntKind.i64 set 1 == 1)
  · have He : Hid (accI a set = (bits BinOp.and IntKind.i64 (set / 2) a.last != 0)) := Lib.hid (by unfold accI andI; rw [hs]; simp)
    go_enter Tryz.func59, Tryz.ntmps59
    go_wp2
    go_ret
    exact ⟨by rw [He.out]; rfl, hb⟩
  · cases hz : a.nullable
    · have He : Hid (accI a set = (bits BinOp.and IntKind.i64 (set / 2) a.last != 0)) := Lib.hid (by unfold accI andI; rw [hs, hz]; simp)
      rw [hz] at hb
      go_enter Tryz.func59, Tryz.ntmps59
      go_wp2
      go_ret
      exact ⟨by rw [He.out]; rfl, hb⟩
    · have He : Hid (accI a set = true) := Lib.hid (by unfold accI andI; rw [hs, hz]; simp)
      rw [hz] at hb
      go_enter Tryz.func59, Tryz.ntmps59
      go_wp2
      go_ret
      exact ⟨by rw [He.out]; rfl, hb⟩

theorem isSet_any (x : Int) (n g : Nat) (w : World) (hc : w.cell? ⟨g, 0, none⟩ = some (.int .i64 n)) (hn : n ≤ 20) :
    Calls Tryz.prog 55 #[.int .i64 x, .pointer (some ⟨g, 0, none⟩)] w fun e w' => e = .returned (.bool (inB x 0 (mskI n))) ∧ w = w' := by
  go_enter Tryz.func55, Tryz.ntmps55
  go_wp2_with (go_at_call 56; refine (within_any _ _ _ _).mono ?_; rintro e w' ⟨rfl, rfl⟩)
  go_ret
  exact ⟨rfl, rfl⟩

end Go.Proofs.YtmnhpbbapkcdjaaGreat

/- Walks: valid positions. -/
namespace Go.Proofs.YtmnhpbbapkcdjaaGreat
open Go.RowKit

noncomputable def posOkB (a : Pos) : Bool := @decide a.Ok (Classical.propDecidable _)
theorem posOk_iff {a : Pos} : posOkB a = true ↔ a.Ok := by unfold posOkB; exact @decide_eq_true_iff _ (Classical.propDecidable _)
theorem posOk_no {a : Pos} : posOkB a = false ↔ ¬ a.Ok := by rw [← posOk_iff]; simp
def PRow (a : Pos) (k : Nat) : Prop := ∀ i, i < k → isL (a.letters[i]?.getD 0) = true ∧ inB (a.follow[i]?.getD 0) 0 (mskI a.n) = true
theorem PRow.zero (a : Pos) : PRow a 0 := fun _ h => absurd h (by omega)
theorem PRow.succ {a : Pos} {k : Nat} (h : PRow a k) (h1 : isL (a.letters[k]?.getD 0) = true) (h2 : inB (a.follow[k]?.getD 0) 0 (mskI a.n) = true) : PRow a (k + 1) := fun i hi => by
  rcases Nat.lt_succ_iff_lt_or_eq.1 hi with h3 | rfl
  · exact h i h3
  · exact ⟨h1, h2⟩

set_option maxHeartbeats 1000000 in
set_option maxRecDepth 100000 in
theorem implPosOk_any (a : Pos) (v : Value) (w : World) (p : Nat → Prop) (h : PosV w p v a) :
    Calls Tryz.prog 27 #[v] w fun e w' => e = .returned (.bool (posOkB a)) ∧ Below w.heap.size w w' := by
  obtain ⟨A1, n1, c1, A2, n2, c2, rfl, h1, h2⟩ := h
  obtain rfl : a.n = n1 := h1.len1
  have L2 := Lib.hid h2.len1
  have hm1 : a.n ≤ 9223372036854775807 := by have := h1.2.1; unfold maxLen at this; omega
  have hm2 : n2 ≤ 9223372036854775807 := by have := h2.2.1; unfold maxLen at this; omega
  have h1 := (h1.alloc (.cells #[.slice A1 a.n c1, .int .i64 a.first, .int .i64 a.last, .slice A2 n2 c2, .bool a.nullable] 26)).alloc (.cells #[.int .i64 a.n] 3)
  have h2 := (h2.alloc (.cells #[.slice A1 a.n c1, .int .i64 a.first, .int .i64 a.last, .slice A2 n2 c2, .bool a.nullable] 26)).alloc (.cells #[.int .i64 a.n] 3)
  have hb := below_alloc2 w (.cells #[.slice A1 a.n c1, .int .i64 a.first, .int .i64 a.last, .slice A2 n2 c2, .bool a.nullable] 26) (.cells #[.int .i64 a.n] 3)
  by_cases h20 : a.n ≤ 20
  · by_cases hl : n2 = a.n
    · subst hl
      go_enter Tryz.func27, Tryz.ntmps27
      go_wp2_with fail
      go_loop [23] (fun i => ∃ k : Nat, k ≤ a.n ∧ i = .int .i64 k ∧ PRow a k) (fun i => a.n - (intOf i).toNat)
      case atStart => exact ⟨0, Nat.zero_le _, rfl, PRow.zero a⟩
      case round =>
        obtain ⟨k, hk, rfl, hr⟩ := hrel
        by_cases hlt : k < a.n
        · obtain ⟨b1, o1, rfl, _, _, hc1⟩ := h1.int_at hlt
          obtain ⟨b2, o2, rfl, _, _, hc2⟩ := h2.int_at hlt
          cases hi1 : isL (a.letters[k]?.getD 0) with
          | false =>
            have He := Lib.hid (posOk_no.2 fun hf : a.Ok => by have := (hf.2.2.2.2 k hlt).1; rw [hi1] at this; cases this)
            go_wp2_with (first | (go_at_call 57; refine (isLetter_any _ _).mono ?_; rintro e w' ⟨rfl, rfl⟩) | (go_at_call 55; refine (isSet_any _ a.n _ _ (by simp) h20).mono ?_; rintro e w' ⟨rfl, rfl⟩))
            go_ret
            exact ⟨by rw [He.out]; rfl, hb⟩
          | true =>
            cases hi2 : inB (a.follow[k]?.getD 0) 0 (mskI a.n) with
            | false =>
              have He := Lib.hid (posOk_no.2 fun hf : a.Ok => by have := (hf.2.2.2.2 k hlt).2; rw [hi2] at this; cases this)
              go_wp2_with (first | (go_at_call 57; refine (isLetter_any _ _).mono ?_; rintro e w' ⟨rfl, rfl⟩) | (go_at_call 55; refine (isSet_any _ a.n _ _ (by simp) h20).mono ?_; rintro e w' ⟨rfl, rfl⟩))
              go_ret
              exact ⟨by rw [He.out]; rfl, hb⟩
            | true =>
              have Hs := Lib.hid (hr.succ hi1 hi2)
              go_wp2_with (first | (go_at_call 57; refine (isLetter_any _ _).mono ?_; rintro e w' ⟨rfl, rfl⟩) | (go_at_call 55; refine (isSet_any _ a.n _ _ (by simp) h20).mono ?_; rintro e w' ⟨rfl, rfl⟩))
              go_round
              case rel => exact ⟨k + 1, by omega, by go_num, Hs.out⟩
              case measure => simp [intOf]; omega
        · obtain rfl : k = a.n := by omega
          cases hi1 : inB a.first 0 (mskI a.n) with
          | false =>
            have He := Lib.hid (posOk_no.2 fun hf : a.Ok => by have := hf.2.2.1; rw [hi1] at this; cases this)
            go_wp2_with (go_at_call 55; refine (isSet_any _ a.n _ _ (by simp) h20).mono ?_; rintro e w' ⟨rfl, rfl⟩)
            go_ret
            exact ⟨by rw [He.out]; rfl, hb⟩
          | true =>
            have He : Hid (posOkB a = inB a.last 0 (mskI a.n)) := Lib.hid (by rw [Bool.eq_iff_iff, posOk_iff]; exact ⟨fun hf => hf.2.2.2.1, fun h => ⟨h20, L2.out, hi1, h, hr⟩⟩)
            go_wp2_with (go_at_call 55; refine (isSet_any _ a.n _ _ (by simp) h20).mono ?_; rintro e w' ⟨rfl, rfl⟩)
            go_ret
            exact ⟨by rw [He.out]; rfl, hb⟩
    · have He := Lib.hid (posOk_no.2 fun hf : a.Ok => hl (by rw [← L2.out]; exact hf.2.1))
      have hl' : ((n2 : Int) != (a.n : Int)) = true := by rw [bne_iff_ne]; omega
      have h20' : decide (20 < (a.n : Int)) = false := by simp; omega
      go_enter Tryz.func27, Tryz.ntmps27
      go_wp2
      go_ret
      exact ⟨by rw [He.out]; rfl, hb⟩
  · have He := Lib.hid (posOk_no.2 fun hf : a.Ok => h20 hf.1)
    have h20' : decide (20 < (a.n : Int)) = true := by simp; omega
    go_enter Tryz.func27, Tryz.ntmps27
    go_wp2
    go_ret
    exact ⟨by rw [He.out]; rfl, hb⟩

set_option maxHeartbeats 1000000 in
set_option maxRecDepth 100000 in
theorem specPosOk_any (a : Pos) (v : Value) (w : World) (p : Nat → Prop) (h : PosV w p v a) :
    Calls Tryz.prog 29 #[v] w fun e w' => e = .returned (.bool (posOkB a)) ∧ Below w.heap.size w w' := by
  obtain ⟨A1, n1, c1, A2, n2, c2, rfl, h1, h2⟩ := h
  obtain rfl : a.n = n1 := h1.len1
  have L2 := Lib.hid h2.len1
  have hm1 : a.n ≤ 9223372036854775807 := by have := h1.2.1; unfold maxLen at this; omega
  have hm2 : n2 ≤ 9223372036854775807 := by have := h2.2.1; unfold maxLen at this; omega
  have h1 := h1.alloc (.cells #[.slice A1 a.n c1, .int .i64 a.first, .int .i64 a.last, .slice A2 n2 c2, .bool a.nullable] 26)
  have h2 := h2.alloc (.cells #[.slice A1 a.n c1, .int .i64 a.first, .int .i64 a.last, .slice A2 n2 c2, .bool a.nullable] 26)
  have hb := below_alloc w (.cells #[.slice A1 a.n c1, .int .i64 a.first, .int .i64 a.last, .slice A2 n2 c2, .bool a.nullable] 26)
  by_cases h20 : a.n ≤ 20
  · have hg1 : decide (20 < (a.n : Int)) = false := by simp; omega
    by_cases hl : n2 = a.n
    · subst hl
      have hg2 : ((a.n : Int) != (a.n : Int)) = false := by simp
      cases hi1 : inB a.first 0 (mskI a.n) with
      | false =>
        have He := Lib.hid (posOk_no.2 fun hf : a.Ok => by have := hf.2.2.1; rw [hi1] at this; cases this)
        have hmsk : wrap64 (wrap64 (2 ^ a.n) - 1) = mskI a.n := rfl
        go_enter Tryz.func29, Tryz.ntmps29
        go_wp2_with fail
        go_quiet ((first | (go_at_call 62; first | exact quietD1 ((l1In_any _ _ _ _).mono fun _ _ ⟨he, hw⟩ => ⟨he, by rw [← hw]; exact Drew.refl _⟩) | exact quietD2 ((l1In_any _ _ _ _).mono fun _ _ ⟨he, hw⟩ => ⟨he, by rw [← hw]; exact Drew.refl _⟩)) | (go_at_call 34; first | exact quietD1 ((l2Letter_any _ _).mono fun _ _ ⟨he, hw⟩ => ⟨he, by rw [← hw]; exact Drew.refl _⟩) | exact quietD2 ((l2Letter_any _ _).mono fun _ _ ⟨he, hw⟩ => ⟨he, by rw [← hw]; exact Drew.refl _⟩))))
        go_wp2
        go_ret
        exact ⟨by rw [He.out]; rfl, below_drewN hb _⟩
      | true =>
        cases hi2 : inB a.last 0 (mskI a.n) with
        | false =>
          have He := Lib.hid (posOk_no.2 fun hf : a.Ok => by have := hf.2.2.2.1; rw [hi2] at this; cases this)
          have hmsk : wrap64 (wrap64 (2 ^ a.n) - 1) = mskI a.n := rfl
          go_enter Tryz.func29, Tryz.ntmps29
          go_wp2_with fail
          go_quiet ((first | (go_at_call 62; first | exact quietD1 ((l1In_any _ _ _ _).mono fun _ _ ⟨he, hw⟩ => ⟨he, by rw [← hw]; exact Drew.refl _⟩) | exact quietD2 ((l1In_any _ _ _ _).mono fun _ _ ⟨he, hw⟩ => ⟨he, by rw [← hw]; exact Drew.refl _⟩)) | (go_at_call 34; first | exact quietD1 ((l2Letter_any _ _).mono fun _ _ ⟨he, hw⟩ => ⟨he, by rw [← hw]; exact Drew.refl _⟩) | exact quietD2 ((l2Letter_any _ _).mono fun _ _ ⟨he, hw⟩ => ⟨he, by rw [← hw]; exact Drew.refl _⟩))))
          go_wp2
          go_ret
          exact ⟨by rw [He.out]; rfl, below_drewN hb _⟩
        | true =>
          have HI1 := Lib.hid hi1; have HI2 := Lib.hid hi2
          have hmsk : wrap64 (wrap64 (2 ^ a.n) - 1) = mskI a.n := rfl
          go_enter Tryz.func29, Tryz.ntmps29
          go_wp2_with fail
          go_quiet ((first | (go_at_call 62; first | exact quietD1 ((l1In_any _ _ _ _).mono fun _ _ ⟨he, hw⟩ => ⟨he, by rw [← hw]; exact Drew.refl _⟩) | exact quietD2 ((l1In_any _ _ _ _).mono fun _ _ ⟨he, hw⟩ => ⟨he, by rw [← hw]; exact Drew.refl _⟩)) | (go_at_call 34; first | exact quietD1 ((l2Letter_any _ _).mono fun _ _ ⟨he, hw⟩ => ⟨he, by rw [← hw]; exact Drew.refl _⟩) | exact quietD2 ((l2Letter_any _ _).mono fun _ _ ⟨he, hw⟩ => ⟨he, by rw [← hw]; exact Drew.refl _⟩))))
          go_wp2_with fail
          clear hi1 hi2
          go_loopw [4] (fun i wr => ∃ (k d : Nat), k ≤ a.n ∧ i = .int .i64 k ∧ PRow a k ∧ wr = (w.alloc (.cells #[.slice A1 a.n c1, .int .i64 a.first, .int .i64 a.last, .slice A2 a.n c2, .bool a.nullable] 26)).drewN d) (fun i _ => a.n - (intOf i).toNat)
          case atStart => exact ⟨0, _, Nat.zero_le _, rfl, PRow.zero a, rfl⟩
          case round =>
            obtain ⟨k, d, hk, rfl, hr, rfl⟩ := hrel
            by_cases hlt : k < a.n
            · obtain ⟨b1, o1, rfl, _, _, hc1⟩ := h1.int_at hlt
              obtain ⟨b2, o2, rfl, _, _, hc2⟩ := h2.int_at hlt
              have hki : (k : Int) < (a.n : Int) := by omega
              cases hi1 : isL (a.letters[k]?.getD 0) with
              | false =>
                have He := Lib.hid (posOk_no.2 fun hf : a.Ok => by have := (hf.2.2.2.2 k hlt).1; rw [hi1] at this; cases this)
                go_wp2_with fail
                go_quiet ((first | (go_at_call 62; first | exact quietD1 ((l1In_any _ _ _ _).mono fun _ _ ⟨he, hw⟩ => ⟨he, by rw [← hw]; exact Drew.refl _⟩) | exact quietD2 ((l1In_any _ _ _ _).mono fun _ _ ⟨he, hw⟩ => ⟨he, by rw [← hw]; exact Drew.refl _⟩)) | (go_at_call 34; first | exact quietD1 ((l2Letter_any _ _).mono fun _ _ ⟨he, hw⟩ => ⟨he, by rw [← hw]; exact Drew.refl _⟩) | exact quietD2 ((l2Letter_any _ _).mono fun _ _ ⟨he, hw⟩ => ⟨he, by rw [← hw]; exact Drew.refl _⟩))))
                go_wp2
                go_ret
                exact ⟨by rw [He.out]; rfl, by (try simp only [World.drewN_drewN]); exact below_drewN hb _⟩
              | true =>
                cases hi2 : inB (a.follow[k]?.getD 0) 0 (mskI a.n) with
                | false =>
                  have He := Lib.hid (posOk_no.2 fun hf : a.Ok => by have := (hf.2.2.2.2 k hlt).2; rw [hi2] at this; cases this)
                  go_wp2_with fail
                  go_quiet ((first | (go_at_call 62; first | exact quietD1 ((l1In_any _ _ _ _).mono fun _ _ ⟨he, hw⟩ => ⟨he, by rw [← hw]; exact Drew.refl _⟩) | exact quietD2 ((l1In_any _ _ _ _).mono fun _ _ ⟨he, hw⟩ => ⟨he, by rw [← hw]; exact Drew.refl _⟩)) | (go_at_call 34; first | exact quietD1 ((l2Letter_any _ _).mono fun _ _ ⟨he, hw⟩ => ⟨he, by rw [← hw]; exact Drew.refl _⟩) | exact quietD2 ((l2Letter_any _ _).mono fun _ _ ⟨he, hw⟩ => ⟨he, by rw [← hw]; exact Drew.refl _⟩))))
                  go_wp2
                  go_ret
                  exact ⟨by rw [He.out]; rfl, by (try simp only [World.drewN_drewN]); exact below_drewN hb _⟩
                | true =>
                  have Hs := Lib.hid (hr.succ hi1 hi2)
                  go_wp2_with fail
                  go_quiet ((first | (go_at_call 62; first | exact quietD1 ((l1In_any _ _ _ _).mono fun _ _ ⟨he, hw⟩ => ⟨he, by rw [← hw]; exact Drew.refl _⟩) | exact quietD2 ((l1In_any _ _ _ _).mono fun _ _ ⟨he, hw⟩ => ⟨he, by rw [← hw]; exact Drew.refl _⟩)) | (go_at_call 34; first | exact quietD1 ((l2Letter_any _ _).mono fun _ _ ⟨he, hw⟩ => ⟨he, by rw [← hw]; exact Drew.refl _⟩) | exact quietD2 ((l2Letter_any _ _).mono fun _ _ ⟨he, hw⟩ => ⟨he, by rw [← hw]; exact Drew.refl _⟩))))
                  go_wp2
                  go_roundw
                  case rel => exact ⟨k + 1, _, by omega, by go_num, Hs.out, by (try simp only [World.drewN_drewN]); rfl⟩
                  case measure => simp [intOf]; omega
            · obtain rfl : k = a.n := by omega
              have He : Hid (posOkB a = true) := Lib.hid (posOk_iff.2 ⟨h20, L2.out, HI1.out, HI2.out, hr⟩)
              go_wp2
              go_ret
              exact ⟨by rw [He.out]; rfl, by (try simp only [World.drewN_drewN]); exact below_drewN hb _⟩
    · have He := Lib.hid (posOk_no.2 fun hf : a.Ok => hl (by rw [← L2.out]; exact hf.2.1))
      have hl' : ((n2 : Int) != (a.n : Int)) = true := by rw [bne_iff_ne]; omega
      go_enter Tryz.func29, Tryz.ntmps29
      go_wp2_with fail
      go_quiet ((first | (go_at_call 62; first | exact quietD1 ((l1In_any _ _ _ _).mono fun _ _ ⟨he, hw⟩ => ⟨he, by rw [← hw]; exact Drew.refl _⟩) | exact quietD2 ((l1In_any _ _ _ _).mono fun _ _ ⟨he, hw⟩ => ⟨he, by rw [← hw]; exact Drew.refl _⟩)) | (go_at_call 34; first | exact quietD1 ((l2Letter_any _ _).mono fun _ _ ⟨he, hw⟩ => ⟨he, by rw [← hw]; exact Drew.refl _⟩) | exact quietD2 ((l2Letter_any _ _).mono fun _ _ ⟨he, hw⟩ => ⟨he, by rw [← hw]; exact Drew.refl _⟩))))
      go_wp2
      go_ret
      exact ⟨by rw [He.out]; rfl, below_drewN hb _⟩
  · have He := Lib.hid (posOk_no.2 fun hf : a.Ok => h20 hf.1)
    have h20' : decide (20 < (a.n : Int)) = true := by simp; omega
    go_enter Tryz.func29, Tryz.ntmps29
    go_wp2_with fail
    go_quiet ((first | (go_at_call 62; first | exact quietD1 ((l1In_any _ _ _ _).mono fun _ _ ⟨he, hw⟩ => ⟨he, by rw [← hw]; exact Drew.refl _⟩) | exact quietD2 ((l1In_any _ _ _ _).mono fun _ _ ⟨he, hw⟩ => ⟨he, by rw [← hw]; exact Drew.refl _⟩)) | (go_at_call 34; first | exact quietD1 ((l2Letter_any _ _).mono fun _ _ ⟨he, hw⟩ => ⟨he, by rw [← hw]; exact Drew.refl _⟩) | exact quietD2 ((l2Letter_any _ _).mono fun _ _ ⟨he, hw⟩ => ⟨he, by rw [← hw]; exact Drew.refl _⟩))))
    go_wp2
    go_ret
    exact ⟨by rw [He.out]; rfl, below_drewN hb _⟩
end Go.Proofs.YtmnhpbbapkcdjaaGreat

/- Walks: words; a word is matched by positions. -/
namespace Go.Proofs.YtmnhpbbapkcdjaaGreat
open Go.RowKit

def isWordB (ws : List Int) : Bool := ws.all isL && decide (ws.length ≤ 8)
theorem all_getD {xs : List Int} {f : Int → Bool} (h : ∀ j, j < xs.length → f (xs[j]?.getD 0) = true) : xs.all f = true := by
  rw [List.all_eq_true]
  intro x hx
  obtain ⟨i, hi, rfl⟩ := List.mem_iff_getElem.1 hx
  have := h i hi
  rwa [List.getElem?_eq_getElem hi] at this
theorem all_no {xs : List Int} {f : Int → Bool} {j : Nat} (hj : j < xs.length) (h : f (xs[j]?.getD 0) = false) : xs.all f = false := by
  rw [← Bool.not_eq_true, List.all_eq_true]
  intro h2
  rw [List.getElem?_eq_getElem hj] at h
  have := h2 _ (List.getElem_mem hj)
  simp only [Option.getD_some] at h
  rw [h] at this; cases this

set_option maxRecDepth 100000 in
theorem isWord_any (A : Option Addr) (n c : Nat) (ws : List Int) (w : World) (p : Nat → Prop) (h : Sl w p 1 A n (ints ws)) :
    Calls Tryz.prog 10 #[.slice A n c] w fun e w' => e = .returned (.bool (isWordB ws)) ∧ w = w' := by
  have hm1 : n ≤ 9223372036854775807 := by have := h.2.1; unfold maxLen at this; omega
  have Hl := Lib.hid h.len1
  go_enter Tryz.func10, Tryz.ntmps10
  go_wp2
  go_loop [3] (fun i => ∃ k : Nat, k ≤ n ∧ i = .int .i64 k ∧ ∀ j, j < k → isL (ws[j]?.getD 0) = true) (fun i => n - (intOf i).toNat)
  case atStart => exact ⟨0, Nat.zero_le _, rfl, fun j h => absurd h (by omega)⟩
  case round =>
    obtain ⟨k, hk, rfl, hr⟩ := hrel
    have Hr := Lib.hid hr; clear hr
    by_cases hlt : k < n
    · obtain ⟨b, off, rfl, _, _, hc⟩ := h.int_at hlt
      cases hi : isL (ws[k]?.getD 0) with
      | true =>
        have Hs := Lib.hid (lt_succ_all (P := fun j => isL (ws[j]?.getD 0) = true) Hr.out hi)
        go_wp2_with (go_at_call 34; refine (l2Letter_any _ _).mono ?_; rintro e w' ⟨rfl, rfl⟩)
        go_round
        case rel => exact ⟨k + 1, by omega, by go_num, Hs.out⟩
        case measure => simp [intOf]; omega
      | false =>
        have Hn : Hid (isWordB ws = false) := Lib.hid (by unfold isWordB; rw [all_no (by rw [Hl.out]; exact hlt) hi]; rfl)
        go_wp2_with (go_at_call 34; refine (l2Letter_any _ _).mono ?_; rintro e w' ⟨rfl, rfl⟩)
        go_ret
        exact ⟨ret_bool Hn.out.symm, rfl⟩
    · obtain rfl : k = n := by omega
      have Hn : Hid (isWordB ws = decide ((k : Int) ≤ 8)) := Lib.hid (by
        unfold isWordB; rw [all_getD (by rw [Hl.out]; exact Hr.out), Hl.out, Bool.true_and]
        by_cases h8 : k ≤ 8
        · simp [h8]; omega
        · simp [h8]; omega)
      go_wp2
      go_ret
      exact ⟨by rw [Hn.out]; rfl, rfl⟩

def matchSet (a : Pos) (ws : List Int) : Int := ws.foldl (afterI a) 1
noncomputable def matchB (a : Pos) (ws : List Int) : Bool := posOkB a && isWordB ws && accI a (matchSet a ws)
theorem fold_step {f : Int → Int → Int} {s : Int} {ws : List Int} {i : Nat} (hi : i < ws.length) : (ws.drop i).foldl f s = (ws.drop (i + 1)).foldl f (f s (ws[i]?.getD 0)) := by
  rw [List.drop_eq_getElem_cons hi, List.foldl_cons, List.getElem?_eq_getElem hi]; rfl
theorem fold_end {f : Int → Int → Int} {s : Int} {ws : List Int} {i : Nat} (hi : ws.length ≤ i) : (ws.drop i).foldl f s = s := by
  rw [List.drop_eq_nil_of_le hi]; rfl

set_option maxHeartbeats 1000000 in
set_option maxRecDepth 100000 in
theorem match_any (a : Pos) (v : Value) (B : Option Addr) (n c : Nat) (ws : List Int) (w : World) (p q : Nat → Prop) (h : PosV w p v a) (hw : Sl w q 1 B n (ints ws)) :
    Calls Tryz.prog 12 #[v, .slice B n c] w fun e w' => e = .returned (.bool (matchB a ws)) ∧ Below w.heap.size w w' := by
  obtain ⟨A1, n1, c1, A2, n2, c2, hv, _, _⟩ := id h
  have ha := h.alloc (.cells #[.slice A1 n1 c1, .int .i64 a.first, .int .i64 a.last, .slice A2 n2 c2, .bool a.nullable] 26)
  have hb := below_alloc w (.cells #[.slice A1 n1 c1, .int .i64 a.first, .int .i64 a.last, .slice A2 n2 c2, .bool a.nullable] 26)
  have hw := hw.alloc (.cells #[.slice A1 n1 c1, .int .i64 a.first, .int .i64 a.last, .slice A2 n2 c2, .bool a.nullable] 26)
  have hm1 : n ≤ 9223372036854775807 := by have := hw.2.1; unfold maxLen at this; omega
  have Hl := Lib.hid hw.len1
  subst hv
  cases hV : posOkB a with
  | false =>
    have He := Lib.hid (show matchB a ws = false by unfold matchB; rw [hV]; rfl)
    go_enter Tryz.func12, Tryz.ntmps12
    go_wp2_with (go_at_call 29; refine (specPosOk_any a _ _ p ha).mono ?_; rintro e w1 ⟨rfl, hb1⟩)
    go_ret
    exact ⟨by rw [He.out]; rfl, hb.trans (hb1.mono (by simp))⟩
  | true =>
    have HV := Lib.hid (posOk_iff.1 hV)
    cases hW : isWordB ws with
    | false =>
      have He := Lib.hid (show matchB a ws = false by unfold matchB; rw [hV, hW]; rfl)
      go_enter Tryz.func12, Tryz.ntmps12
      go_wp2_with fail
      refine (specPosOk_any a _ _ p ha).mono ?_; rintro e w1 ⟨rfl, hb1⟩
      have hw1 := hw.keep hb1.size (fun b _ hb => hb1.block b hb)
      go_wp2_with (go_at_call 10; refine (isWord_any B n c ws w1 q hw1).mono ?_; rintro e w' ⟨rfl, rfl⟩)
      go_ret
      exact ⟨by rw [He.out]; rfl, hb.trans (hb1.mono (by simp))⟩
    | true =>
      have He := Lib.hid (show matchB a ws = accI a (matchSet a ws) by unfold matchB; rw [hV, hW]; rfl)
      go_enter Tryz.func12, Tryz.ntmps12
      go_wp2_with fail
      refine (specPosOk_any a _ _ p ha).mono ?_; rintro e w1 ⟨rfl, hb1⟩
      have hw1 := hw.keep hb1.size (fun b _ hb => hb1.block b hb)
      obtain ⟨e0, e1, e2, e3, e4, hlt, hB⟩ := box5 (Blk.new w _ _) hb1
      have ha1 := ha.below hb1
      have hb2 := hb.trans (hb1.mono (by simp))
      clear ha hw hb hb1 e0 e1 e2 e3 e4
      go_wp2_with (go_at_call 10; refine (isWord_any B n c ws w1 q hw1).mono ?_; rintro e w' ⟨rfl, rfl⟩)
      go_loopw [5, 6] (fun s i wr => ∃ (x : Int) (k : Nat), k ≤ n ∧ i = .int .i64 k ∧ s = .int .i64 x ∧ Hid (matchSet a ws = (ws.drop k).foldl (afterI a) x) ∧ Below w1.heap.size w1 wr) (fun _ i _ => n - (intOf i).toNat)
      case atStart => exact ⟨1, 0, Nat.zero_le _, rfl, rfl, Lib.hid rfl, Below.refl _ _⟩
      case round =>
        obtain ⟨x, k, hk, rfl, rfl, Hr, hbr⟩ := hrel
        have hBr := hB.below hbr hlt
        have f0 := hBr.cell 0; have f1 := hBr.cell 1; have f2 := hBr.cell 2; have f3 := hBr.cell 3; have f4 := hBr.cell 4
        simp at f0 f1 f2 f3 f4
        by_cases hlk : k < n
        · obtain ⟨bw, ow, rfl, _, _, hcw⟩ := (hw1.keep hbr.size (fun b _ hb => hbr.block b hb)).int_at hlk
          have Hs := Lib.hid (fold_step (f := afterI a) (s := x) (ws := ws) (by rw [Hl.out]; exact hlk))
          generalize ws[k]?.getD 0 = l at *
          have hki : (k : Int) < (n : Int) := by omega
          go_wp2_with fail
          go_region_held3 (fun w' => w'.cell? ⟨w.heap.size, 0, none⟩ = some (.slice A1 n1 c1) ∧ w'.cell? ⟨w.heap.size, 1, none⟩ = some (.int .i64 a.first) ∧ w'.cell? ⟨w.heap.size, 2, none⟩ = some (.int .i64 a.last) ∧ w'.cell? ⟨w.heap.size, 3, none⟩ = some (.slice A2 n2 c2) ∧ w'.cell? ⟨w.heap.size, 4, none⟩ = some (.bool a.nullable) ∧ w'.cell? ⟨bw, ow + k, none⟩ = some (.int .i64 l))
            (first | go_keep | exact ⟨d0, d1, d2, d3, d4, d5⟩)
            (first | (go_at_call 36; refine (l10After_any a _ x l _ p (by exact (ha1.below hbr).drew) HV.out.2.1 HV.out.1).mono ?_; rintro e w3 ⟨rfl, hb3⟩; have d0 := (hb3.cell (p := ⟨w.heap.size, 0, none⟩) hBr.lt).trans f0; have d1 := (hb3.cell (p := ⟨w.heap.size, 1, none⟩) hBr.lt).trans f1; have d2 := (hb3.cell (p := ⟨w.heap.size, 2, none⟩) hBr.lt).trans f2; have d3 := (hb3.cell (p := ⟨w.heap.size, 3, none⟩) hBr.lt).trans f3; have d4 := (hb3.cell (p := ⟨w.heap.size, 4, none⟩) hBr.lt).trans f4; have d5 := (hb3.cell (p := ⟨bw, ow + k, none⟩) (World.block_lt_of_cell? wr _ hcw)).trans hcw))
          go_wp2
          go_roundw
          case rel => exact ⟨_, k + 1, by omega, by go_num, rfl, Lib.hid (by rw [Hr.out, Hs.out]), hbr.drew.trans (hb3.mono hbr.size)⟩
          case measure => simp [intOf]; omega
        · obtain rfl : k = n := by omega
          have Hx := Lib.hid (show matchSet a ws = x by rw [Hr.out]; exact fold_end (by rw [Hl.out]; omega))
          go_wp2_with (go_at_call 37; refine (l10Accepts_any a _ x wr p (ha1.below hbr)).mono ?_; rintro e w3 ⟨rfl, hb3⟩)
          go_ret
          exact ⟨by rw [He.out, Hx.out]; rfl, hb2.trans ((hbr.mono (by omega)).trans (hb3.mono (by have := hbr.size; omega)))⟩
end Go.Proofs.YtmnhpbbapkcdjaaGreat
