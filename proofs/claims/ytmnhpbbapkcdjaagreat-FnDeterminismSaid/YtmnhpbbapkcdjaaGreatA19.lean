/- Walks: the live states of the program; A queue: a slice of the call's own that does not begin at its block's head; append to it; Walks: the states that are found from the start; the useful ones; Walks: the useful states. No condition. -/
import Derived.Test.YtmnhpbbapkcdjaaGreatA18
import Derived.Deep.LoopGhost
import Derived.Deep.Onto
import Derived.Deep.AppendSrc
import Derived.Deep.RegionHeld3

/- Walks: the live states of the program. -/
namespace Go.Proofs.YtmnhpbbapkcdjaaGreat
open Go.RowKit

theorem cloneB_any (A : Option Addr) (n c : Nat) (xs : List Bool) (w : World) (p : Nat → Prop) (h : Sl w p 1 A n (bools xs)) (hn : 0 < n) (hn2 : n ≤ 100000) :
    Calls Tryz.prog 80 #[.slice A n c] w fun e w' => OwnB w w' n xs e := by
  have Hl := Lib.hid h.lenb
  obtain ⟨b, off, rfl, _, _, _⟩ := h.bool_at hn
  have hnil := fun wx => Lib.run_eql_slice_nil (P := Tryz.prog) wx 28 4 (some ⟨b, off, none⟩) n c 0 0 Tryz.underlying28
  go_enter Tryz.func80, Tryz.ntmps80
  go_wp2_with (at_builtin; refine wpList_apps elBool rfl _ _ rfl w.heap.size _ 0 [] rfl (own0 (by simp) (by omega)) p (some ⟨b, off, none⟩) n c (bools xs) rfl (h.alloc _) (bools_one _) ?hb ?h63 ?hbase ?_)
  case hb => omega
  case h63 => omega
  case hbase => simp
  intro v1 w1 hown hgr hat
  try simp only [Nat.zero_add, List.nil_append] at hown
  obtain ⟨g, cap, rfl, hbg, hlg⟩ := hown.form hn
  go_wp2
  go_ret
  refine ⟨g, cap, rfl, hown, (below_alloc w _).grown hgr (by simp) (by simp [Value.ownBlock])⟩

/-- what has become of 'again' -/
def AG (b : Bool) (o o' : List Bool) : Prop := (b = false → o' = o) ∧ (b = true → o.count true < o'.count true)
theorem AG.start (o : List Bool) : AG false o o := ⟨fun _ => rfl, fun h => by cases h⟩
theorem AG.yes {a : Aut} {b : Bool} {o o' : List Bool} {s k : Nat} (h : AG b o o') (h0 : 0 ≤ a.nx s k) (h1 : o'[(a.nx s k).toNat]?.getD false = true) (h2 : o'[s]?.getD false = false) (hs : s < o'.length) : AG true o (lvStep a s o' k) := by
  refine ⟨fun h => (by cases h), fun _ => ?_⟩
  have hlt : o'.count true < (lvStep a s o' k).count true := by
    rcases Nat.lt_or_ge (o'.count true) ((lvStep a s o' k).count true) with h | h
    · exact h
    · have he := ble_count_eq (Ble.step a s o' k) h
      have : (lvStep a s o' k)[s]?.getD false = true := by
        unfold lvStep; rw [if_pos ⟨h0, h1⟩, List.getElem?_set, if_pos rfl, if_pos hs]; rfl
      rw [← he, h2] at this
      cases this
  cases b with
  | false => rw [h.1 rfl] at hlt ⊢; exact hlt
  | true => have := h.2 rfl; omega
theorem lvStep_same {a : Aut} {o : List Bool} {s k : Nat} (h : ¬ (0 ≤ a.nx s k ∧ o[(a.nx s k).toNat]?.getD false = true) ∨ o[s]?.getD false = true) : lvStep a s o k = o := by
  unfold lvStep
  split
  · rename_i hc
    rcases h with h | h
    · exact absurd hc h
    · apply List.ext_getElem (by simp)
      intro i h1 h2
      rw [List.getElem_set]
      split
      · rename_i he; subst he; rw [List.getElem?_eq_getElem h2] at h; simpa using h.symm
      · rfl
  · rfl
theorem AG.no {a : Aut} {b : Bool} {o o' : List Bool} {s k : Nat} (h : AG b o o') (hc : ¬ (0 ≤ a.nx s k ∧ o'[(a.nx s k).toNat]?.getD false = true) ∨ o'[s]?.getD false = true) : AG b o (lvStep a s o' k) := by
  rw [lvStep_same hc]; exact h

def lvm (a : Aut) (m : Nat) : List Bool := upto (lvAll a) a.acc m
theorem lvm_succ (a : Aut) (m : Nat) : lvm a (m + 1) = upto (lvRow a) (lvm a m) a.n := rfl
/-- the measure -/
def lvg (a : Aut) (b : Bool) (o : List Bool) : Nat := if b then a.n + 1 - o.count true else 0

def LvR (a : Aut) (w w1 : World) (g cap gk : Nat) (u : Value) (wr : World) : Prop :=
  ∃ (b : Bool) (m : Nat), u = .bool b ∧ LvI a w w1 g cap (lvm a m) wr ∧ Hid (b = false → lvAll a (lvm a m) m = lvm a m) ∧ gk = lvg a b (lvm a m)
theorem lvg_down {a : Aut} {b : Bool} {m : Nat} (hl : (lvm a (m + 1)).length = a.n) (h : AG b (lvm a m) (lvm a (m + 1))) (hle : (lvm a m).count true ≤ a.n) : lvg a b (lvm a (m + 1)) < lvg a true (lvm a m) := by
  have := count_le_len (lvm a (m + 1))
  unfold lvg
  cases b with
  | false => simp; omega
  | true => have := h.2 rfl; simp; omega
theorem LvI.len {a : Aut} {w w1 wr : World} {g cap : Nat} {o : List Bool} (h : LvI a w w1 g cap o wr) : o.length = a.n := by have := h.own.1; simpa [bools] using this

set_option maxRecDepth 100000 in
theorem live_any (a : Aut) (v : Value) (w : World) (p : Nat → Prop) (h : AutV w p v a) (hf : a.Fits) (hn : a.n ≤ 1000) :
    Calls Tryz.prog 49 #[v] w fun e w' => OwnB w w' a.n (liveF a) e := by
  obtain ⟨A1, c1, A2, c2, rfl, h1, h2⟩ := h.fit hf
  have h2 : Sls w (· < w.heap.size) A2 a.n a.next := h2.weak (fun b _ h => h)
  have h1 := h1.alloc (.cells #[.int .i64 a.start, .slice A1 a.n c1, .slice A2 a.n c2] 31)
  have hpos := hf.pos
  have HF := Lib.hid hf; clear hf
  go_enter Tryz.func49, Tryz.ntmps49
  go_wp2_with fail
  refine (cloneB_any A1 a.n c1 a.acc _ p h1 hpos (by omega)).mono ?_; rintro e w1 ⟨g, cap, rfl, hown, hb⟩
  obtain ⟨e0, e1, e2, hlt, hB1⟩ := box3 (Blk.new w _ _) hb
  have hown : w1.ownsRow w.heap.size 4 1 (.slice (some ⟨g, 0, none⟩) a.n cap) a.n (bools a.acc) := hown.mono (by simp)
  obtain ⟨g', cap', hv, hbg, hlg⟩ := hown.form hpos
  obtain ⟨rfl, rfl⟩ : g = g' ∧ cap = cap' := by simpa using hv
  clear hv
  have hne := own_blk_ne hown hB1 (by decide)
  simp only [Value.ownBlock, ne_eq, Option.some.injEq] at hne
  have hb1 : Below w.heap.size w w1 := (below_alloc w _).trans (hb.mono (by simp))
  have hI : LvI a w w1 g cap (lvm a 0) w1 := ⟨hown, World.grownBy.refl _ _⟩
  have hs2 := h2.below hb1 (fun b h _ => h)
  clear hown h1 hb e0 e1 e2
  go_wp2_with fail
  go_loopg [4] (lvg a true (lvm a 0)) (fun gk u wr => LvR a w w1 g cap gk u wr)
  case atStart => exact ⟨true, 0, rfl, hI, Lib.hid (fun h => by cases h), rfl⟩
  case round =>
    obtain ⟨b, m, rfl, hI1, hfx, rfl⟩ := hrel
    obtain ⟨w2, rfl⟩ : ∃ wo : World, wo = wr := ⟨_, rfl⟩
    have hle : (lvm a m).count true ≤ a.n := by rw [← hI1.len]; exact count_le_len _
    have hB2 := hB1.grown hI1.gr (by simpa using hne)
    have f2 := hB2.cell 2
    simp at f2
    cases b with
    | false =>
      go_wp2
      go_ret
      have := hI1.out hb1 hbg
      rwa [show lvm a m = liveF a from live_of_fix HF.out (hfx.out (by first | trivial | rfl))] at this
    | true =>
      go_wp2_with fail
      go_loopw [4, 16] (fun u i wr => ∃ (b : Bool) (k : Nat), k ≤ a.n ∧ u = .bool b ∧ i = .int .i64 k ∧ LvI a w w1 g cap (upto (lvRow a) (lvm a m) k) wr ∧ AG b (lvm a m) (upto (lvRow a) (lvm a m) k)) (fun _ i _ => a.n - (intOf i).toNat)
      case atStart => exact ⟨false, 0, Nat.zero_le _, rfl, rfl, hI1, AG.start _⟩
      case round =>
        obtain ⟨b, k2, hk2, rfl, rfl, hI2, hA2⟩ := hrel
        clear hB2 f2 hI1
        obtain ⟨w3, rfl⟩ : ∃ wo : World, wo = wr := ⟨_, rfl⟩
        by_cases hlt2 : k2 < a.n
        · obtain ⟨bN, oN, bR, oR, cR, rfl, hpN, _, hpR, _, hcN1, hcR1⟩ := hs2.row9 HF.out hlt2 hlt2
          have hcN := hI2.gr.cell hcN1 (by simp; omega)
          go_wp2_with fail
          go_loopw [4, 23] (fun u i wr => ∃ (b : Bool) (k : Nat), k ≤ 9 ∧ u = .bool b ∧ i = .int .i64 k ∧ LvI a w w1 g cap (upto (lvStep a k2) (upto (lvRow a) (lvm a m) k2) k) wr ∧ AG b (lvm a m) (upto (lvStep a k2) (upto (lvRow a) (lvm a m) k2) k)) (fun _ i _ => 9 - (intOf i).toNat)
          case atStart => exact ⟨b, 0, Nat.zero_le _, rfl, rfl, hI2, hA2⟩
          case round =>
            obtain ⟨b3, k3, hk3, rfl, rfl, hI3, hA3⟩ := hrel
            clear hI2 hA2
            by_cases hlt3 : k3 < 9
            · have hcR := hI3.gr.cell (hcR1 k3 hlt3) (by simp; omega)
              have hx1 := (HF.out.2.2.2 k2 hlt2).2 k3 hlt3
              have hcs := own_bool_at hI3.own hlt2
              have hfr := hI3.own.frozenAt k2
              clear hcN hcN1
              by_cases h0 : 0 ≤ a.nx k2 k3
              · have hco := own_bool_at hI3.own (k := (a.nx k2 k3).toNat) (by omega)
                have hln := hI3.len
                cases hb1 : (upto (lvStep a k2) (upto (lvRow a) (lvm a m) k2) k3)[(a.nx k2 k3).toNat]?.getD false with
                | false =>
                  have Hi := Lib.hid (hI3.no (s := k2) (k := k3) (fun h => by rw [hb1] at h; cases h.2))
                  have Ha := Lib.hid (hA3.no (s := k2) (k := k3) (.inl (fun h => by rw [hb1] at h; cases h.2)))
                  rw [hb1] at hco; clear hb1
                  go_wp2
                  go_roundw
                  case rel => exact ⟨b3, k3 + 1, by omega, rfl, by go_num, Hi.out, Ha.out⟩
                  case measure => simp [intOf]; omega
                | true =>
                  cases hb2 : (upto (lvStep a k2) (upto (lvRow a) (lvm a m) k2) k3)[k2]?.getD false with
                  | false =>
                    have Hi := Lib.hid (hI3.yes h0 hb1)
                    have Ha := Lib.hid (hA3.yes h0 hb1 hb2 (by omega))
                    rw [hb1] at hco; rw [hb2] at hcs; clear hb1 hb2
                    go_wp2
                    go_roundw
                    case rel => exact ⟨true, k3 + 1, by omega, rfl, by go_num, Hi.out, Ha.out⟩
                    case measure => simp [intOf]; omega
                  | true =>
                    have hs : lvStep a k2 (upto (lvStep a k2) (upto (lvRow a) (lvm a m) k2) k3) k3 = upto (lvStep a k2) (upto (lvRow a) (lvm a m) k2) k3 := lvStep_same (.inr hb2)
                    have Hi := Lib.hid (show LvI a w w1 g cap (lvStep a k2 (upto (lvStep a k2) (upto (lvRow a) (lvm a m) k2) k3) k3) wr by rw [hs]; exact hI3)
                    have Ha := Lib.hid (hA3.no (a := a) (s := k2) (k := k3) (.inr hb2))
                    rw [hb1] at hco; rw [hb2] at hcs; clear hb1 hb2
                    clear hs
                    go_wp2
                    go_roundw
                    case rel => exact ⟨b3, k3 + 1, by omega, rfl, by go_num, Hi.out, Ha.out⟩
                    case measure => simp [intOf]; omega
              · have Hi := Lib.hid (hI3.no (s := k2) (k := k3) (fun h => h0 h.1))
                have Ha := Lib.hid (hA3.no (s := k2) (k := k3) (.inl (fun h => h0 h.1)))
                go_wp2
                go_roundw
                case rel => exact ⟨b3, k3 + 1, by omega, rfl, by go_num, Hi.out, Ha.out⟩
                case measure => simp [intOf]; omega
            · obtain rfl : k3 = 9 := by omega
              go_wp2
              go_roundw
              case rel => exact ⟨b3, k2 + 1, by omega, rfl, by go_num, hI3, hA3⟩
              case measure => simp [intOf]; omega
        · obtain rfl : k2 = a.n := by omega
          go_wp2
          go_roundg (lvg a b (lvm a (m + 1)))
          case rel => exact ⟨b, m + 1, rfl, hI2, Lib.hid (fun hb => by have := hA2.1 hb; show lvAll a (lvAll a (lvm a m) m) m = lvAll a (lvm a m) m; rw [show lvAll a (lvm a m) m = lvm a m from this]; exact this), rfl⟩
          case measure => exact lvg_down hI2.len hA2 (hle)
end Go.Proofs.YtmnhpbbapkcdjaaGreat

/- A queue: a slice of the call's own that does not begin at its block's head; append to it. -/
namespace Go.Proofs.YtmnhpbbapkcdjaaGreat
open Go.RowKit

/-- the value is a slice of one-cell elements in a block of the call's own, perhaps not at its head -/
def OwnM (w : World) (base : Nat) (e : TypeId) (A : Option Addr) (n cap : Nat) (xs : List Value) : Prop :=
  xs.length = n ∧ ((n = 0 ∧ cap = 0) ∨ ∃ g off cur, A = some ⟨g, off, none⟩ ∧ base ≤ g ∧ w.heap[g]? = some (.cells cur e (0, 0)) ∧ n ≤ cap ∧ cap ≤ maxLen ∧ off + cap = cur.size ∧ ∀ j, j < n → cur[off + j]? = xs[j]?)

section
variable {w w' : World} {base n cap : Nat} {e : TypeId} {A : Option Addr} {xs : List Value}
theorem OwnM.of_own {c : Nat} (h : w.ownsRow base e 1 (.slice A n c) n xs) (hn : 0 < n) : OwnM w base e A n c xs := by
  refine ⟨by simpa using h.1, .inr ?_⟩
  rcases h.2 with ⟨_, h0⟩ | ⟨g, cap, cur, hv, hb, hg, hnc, hcm, hcs, ht⟩
  · omega
  · injection hv with h1 _ h2
    subst h1 h2
    refine ⟨g, 0, cur, rfl, hb, hg, hnc, hcm, by omega, fun j hj => ?_⟩
    rw [← ht, List.getElem?_take, if_pos (by omega)]
    simp
/-- the block, where there is one -/
theorem OwnM.at_ (h : OwnM w base e A n cap xs) {k : Nat} (hk : k < n) : ∃ g off, A = some ⟨g, off, none⟩ ∧ g < w.heap.size ∧ w.cell? ⟨g, off + k, none⟩ = xs[k]? := by
  rcases h.2 with ⟨h0, _⟩ | ⟨g, off, cur, hv, hb, hg, hnc, hcm, hcs, ht⟩
  · omega
  · exact ⟨g, off, hv, Blk.lt (t := e) (cs := cur) hg, by rw [cell_of_row w g (off + k) cur e (0, 0) hg]; exact ht k hk⟩
theorem OwnM.keep (h : OwnM w base e A n cap xs) (hk : ∀ g cur, w.heap[g]? = some (.cells cur e (0, 0)) → base ≤ g → w'.heap[g]? = w.heap[g]?) : OwnM w' base e A n cap xs := by
  refine ⟨h.1, h.2.imp id ?_⟩
  rintro ⟨g, off, cur, hv, hb, hg, h4⟩
  exact ⟨g, off, cur, hv, hb, (hk g cur hg hb).trans hg, h4⟩
/-- a write into a block of another element type leaves it alone -/
theorem OwnM.far (h : OwnM w base e A n cap xs) {e' : TypeId} {size' n' base' : Nat} {v' : Value} {ys : List Value} (ho : w.ownsRow base' e' size' v' n' ys) (hg : w.grownBy w' v'.ownBlock) (hne : e ≠ e') : OwnM w' base e A n cap xs :=
  h.keep fun g cur hgc _ => hg.block g (Blk.lt (t := e) (cs := cur) hgc) (own_blk_ne ho (g := g) (t := e) (cs := cur) hgc (Ne.symm hne))
theorem OwnM.alloc (h : OwnM w base e A n cap xs) (o : Obj) : OwnM (w.alloc o) base e A n cap xs := h.keep fun g cur hg _ => Below.heap_alloc w o g (Blk.lt (t := e) (cs := cur) hg)
theorem OwnM.tail (h : OwnM w base e A n cap xs) (hn : 0 < n) (hnc : n ≤ cap) : OwnM w base e (if cap = 1 then A else A.map (·.add 1)) (n - 1) (cap - 1) xs.tail := by
  refine ⟨by rw [List.length_tail, h.1], ?_⟩
  rcases h.2 with ⟨h0, _⟩ | ⟨g, off, cur, rfl, hb, hg, hnc, hcm, hcs, ht⟩
  · omega
  · by_cases hc : cap = 1
    · left; omega
    · right
      rw [if_neg hc]
      refine ⟨g, off + 1, cur, by simp [Addr.add], hb, hg, by omega, by omega, by omega, fun j hj => ?_⟩
      rw [Nat.add_assoc, ht (1 + j) (by omega), Nat.add_comm 1 j]
      cases xs <;> simp
end

section
variable {P : Program} {ops : Array Oper} {rest : List Oper} {o : Oper} {a : Act} {Q : Exit → Act → World → Prop} {t e : TypeId} {z : Value} {bytes : Nat}
theorem wpList_appM {w : World} (E : El P t e z 1 bytes) (hgd : o.guard = none) (s x : Operand)
    (ho : o.op = .call { callee := .builtin .append, args := #[s, x], argTypes := #[t, t] })
    (base : Nat) (A : Option Addr) (n cap : Nat) (xs : List Value) (hs : a.eval s = .slice A n cap) (hown : OwnM w base e A n cap xs)
    (u : Value) (H : Nat) (hx : a.eval x = .slice (some ⟨H, 0, none⟩) 1 1) (hH : H = w.heap.size) (h1 : u.oneCell' = true)
    (hA : A ≠ none) (hb : (n + 1) * bytes ≤ 140737488355328) (h63 : n + 1 ≤ 9223372036854775807) (hbase : base ≤ w.heap.size)
    (h : ∀ A' cap' w', OwnM w' base e A' (n + 1) cap' (xs ++ [u]) → A' ≠ none → n + 1 ≤ cap' → Below base w w' → w.heap.size ≤ w'.heap.size →
      (∀ (g : Nat) (t' : TypeId) (cs : Array Value), w.heap[g]? = some (Obj.cells cs t' (0, 0)) → t' ≠ e → w'.heap[g]? = w.heap[g]?) →
      wpList P ops Q rest (a.put o.dst (.slice A' (n + 1) cap')) w') : wpList P ops Q (o :: rest) a (w.alloc (.cells #[u] e)) := by
  subst hH
  obtain ⟨i, hi, hz, hs1, hb1⟩ := info_parts E.inf
  have key : ∃ A' cap' w', (Builtin.append_ #[t, t] o.type #[.slice A n cap, .slice (some ⟨w.heap.size, 0, none⟩) 1 1]).run P (w.alloc (.cells #[u] e)) = .ok (.slice A' (n + 1) cap') w' ∧
      OwnM w' base e A' (n + 1) cap' (xs ++ [u]) ∧ A' ≠ none ∧ n + 1 ≤ cap' ∧ Below base w w' ∧ (∀ (g : Nat) (t' : TypeId) (cs : Array Value), w.heap[g]? = some (Obj.cells cs t' (0, 0)) → t' ≠ e → w'.heap[g]? = w.heap[g]?) := by
    have hnews := World.news_of_block (heap_alloc_new w (.cells #[u] e))
    have hal : ∀ k, k < w.heap.size → (w.alloc (.cells #[u] e)).heap[k]? = w.heap[k]? := fun k hk => Below.heap_alloc w _ k hk
    by_cases hroom : n + 1 ≤ cap
    · rcases hown.2 with ⟨h0, hc0⟩ | ⟨g, off, cur, rfl, hbg, hg, hnc, hcm, hcs, ht⟩
      · omega
      · have hglt := Blk.lt (t := e) (cs := cur) hg
        have hg' : (w.alloc (.cells #[u] e)).heap[g]? = some (.cells cur e (0, 0)) := (hal g hglt).trans hg
        have hr := run_append_room_src (P := P) (w := w.alloc (.cells #[u] e)) t t o.type e i E.und hi g off n cap (.slice (some ⟨w.heap.size, 0, none⟩) 1 1) 1 [u] (Src.ofSlice _ E.und _ 1 1 [u] (by simp [hs1]) hnews (by simpa using h1)) hroom
          (fun j hj => by rw [cell_of_row _ g _ cur e (0, 0) hg']; simp at hj; subst hj; rw [hs1]; simp; omega) (fun j hj => frozen_of_row _ g _ cur e hg')
        rw [hs1] at hr
        refine ⟨_, _, _, hr, ⟨by simp [hown.1], .inr ⟨g, off, cur.setIfInBounds (off + n) u, rfl, hbg, ?_, hroom, hcm, by simpa using hcs, fun j hj => ?_⟩⟩, by simp, hroom, ?_, ?_⟩
        · simpa [World.setCells] using heap_setCell_same (w.alloc (.cells #[u] e)) g (off + n) cur e u hg'
        · rw [Array.getElem?_setIfInBounds]
          by_cases hjn : j = n
          · subst hjn
            rw [if_pos rfl, if_pos (by omega), List.getElem?_append_right (by have := hown.1; omega)]
            simp [hown.1]
          · rw [if_neg (by omega), ht j (by omega), List.getElem?_append_left (by have := hown.1; omega)]
        · simp only [World.setCells]
          exact ((Below.refl base w).alloc hbase _).setCell hbg _
        · intro g' t' cs hgc hne
          simp only [World.setCells]
          rw [Below.heap_setCell _ _ _ _ (by rintro rfl; rw [hg] at hgc; injection hgc with hgc; injection hgc with _ h9; exact hne h9.symm)]
          exact hal g' (Blk.lt (t := t') (cs := cs) hgc)
    · cases A with
      | none => exact absurd rfl hA
      | some ad =>
        have holds : ∀ j v, xs[j]? = some v → (w.alloc (.cells #[u] e)).cell? (ad.add j) = some v := by
          intro j v hv
          have hj : j < n := by have := (List.getElem?_eq_some_iff.1 hv).1; have := hown.1; omega
          obtain ⟨g, off, he, hlt, hc⟩ := hown.at_ hj
          injection he with he
          subst he
          have : (⟨g, off, none⟩ : Addr).add j = ⟨g, off + j, none⟩ := by unfold Addr.add; split <;> simp_all
          rw [this]
          exact (World.cell?_of_block (hal g hlt)).trans (hc.trans hv)
        have hr := run_append_grow (P := P) (w.alloc (.cells #[u] e)) t o.type e i z E.und hi hz ad n cap xs (by rw [hs1]; simpa using hown.1) holds ⟨w.heap.size, 0, none⟩ 1 1 [u] (by simp [hs1]) hnews (by omega) (by omega) (growslice_fits (by omega) (by rw [hb1]; exact hb))
        have hge := grownCap_ge (w.alloc (.cells #[u] e)) (n + 1) cap e
        refine ⟨_, _, _, hr, ⟨by simp [hown.1], .inr ⟨_, 0, _, rfl, ?_, heap_alloc_new _ _, hge, grownCap_le_maxLen _ _ _ _ (by unfold maxLen; omega), ?_, fun j hj => ?_⟩⟩, by simp, hge, ?_, ?_⟩
        · simp; omega
        · simp only [Array.size_append, List.size_toArray, size_zeroCells, E.zs, hown.1]
          simp; omega
        · rw [Nat.zero_add, Array.getElem?_append_left (by simp [hown.1]; omega)]
          simp [hown.1]
        · exact (((Below.refl base w).alloc hbase _).drew).alloc (by simp; omega) _
        · intro g' t' cs hgc _
          have hlt := Blk.lt (t := t') (cs := cs) hgc
          rw [Below.heap_alloc _ _ _ (by simp; omega)]
          exact hal g' hlt
  obtain ⟨A', cap', w', hrun, h2, h3, h4, h5, h6⟩ := key
  refine wpList_plain hgd fun K hK => ?_
  unfold Oper.wp execOp
  simp only [ho, resolve, invoke, builtin, Sem.run_bind, Sem.run_pure, Result.andThen_ok, List.map_toArray, List.map_cons, List.map_nil, hs, hx, hrun]
  exact hK _ _ (h A' cap' w' h2 h3 h4 h5 h5.size h6)
end
end Go.Proofs.YtmnhpbbapkcdjaaGreat

/- Walks: the states that are found from the start; the useful ones. -/
namespace Go.Proofs.YtmnhpbbapkcdjaaGreat
open Go.RowKit

/-- the rounds' invariant: o what is marked, zs the queue -/
structure FR (a : Aut) (w1 : World) (g : Nat) (o : List Bool) (A : Option Addr) (n cp : Nat) (zs : List Int) (wr : World) : Prop where
  own : wr.ownsRow g 4 1 (.slice (some ⟨g, 0, none⟩) a.n a.n) a.n (bools o)
  q : OwnM wr g 3 A n cp (ints zs)
  nn : A ≠ none
  le : n ≤ cp
  len : zs.length = n
  rng : ∀ (j : Nat), j < n → 0 ≤ zs[j]?.getD 0 ∧ zs[j]?.getD 0 < a.n
  cnt : n ≤ o.count true
  below : Below g w1 wr
def FRel (a : Aut) (w1 : World) (g S : Nat) (v : Value) (s0 : Int) (wr : World) : Prop :=
  ∃ (o : List Bool) (A : Option Addr) (n cp : Nat) (zs : List Int), v = .slice A n cp ∧ FR a w1 g o A n cp zs wr ∧ S = a.n - o.count true + n ∧ 0 < n ∧ zs[0]?.getD 0 = s0
def FRel0 (a : Aut) (w1 : World) (g S : Nat) (v : Value) (wr : World) : Prop :=
  ∃ (o : List Bool) (A : Option Addr) (n cp : Nat) (zs : List Int), v = .slice A n cp ∧ FR a w1 g o A n cp zs wr ∧ S = a.n - o.count true + n
/-- some slice of n bools of the call's own -/
def SomeB (w w' : World) (n : Nat) (e : Ending) : Prop := ∃ xs, OwnB w w' n xs e

theorem FR.ln {a : Aut} {w1 wr : World} {g n cp : Nat} {o : List Bool} {A : Option Addr} {zs : List Int} (h : FR a w1 g o A n cp zs wr) : o.length = a.n := by have := h.own.1; simpa [bools] using this

theorem FR.drewN {a : Aut} {w1 wr : World} {g n cp : Nat} {o : List Bool} {A : Option Addr} {zs : List Int} (h : FR a w1 g o A n cp zs wr) (d : Nat) : FR a w1 g o A n cp zs (wr.drewN d) :=
  ⟨h.own, h.q, h.nn, h.le, h.len, h.rng, h.cnt, below_drewN h.below d⟩
theorem FRel.drewN {a : Aut} {w1 wr : World} {g S : Nat} {v : Value} {s0 : Int} (h : FRel a w1 g S v s0 wr) (d : Nat) : FRel a w1 g S v s0 (wr.drewN d) := by
  obtain ⟨o, A, n, cp, zs, hv, hI, h3⟩ := h
  exact ⟨o, A, n, cp, zs, hv, hI.drewN d, h3⟩
theorem count_set_b {o : List Bool} {s : Nat} (hs : s < o.length) (h : o[s]?.getD false = false) : (o.set s true).count true = o.count true + 1 := by
  rw [List.count_set hs]
  rw [List.getElem?_eq_getElem hs] at h
  simp only [Option.getD_some] at h
  rw [h]
  simp
theorem FR.mark {a : Aut} {w1 wr : World} {g n cp t : Nat} {o : List Bool} {A : Option Addr} {zs : List Int} (h : FR a w1 g o A n cp zs wr) (ht : t < a.n) (hf : o[t]?.getD false = false) :
    FR a w1 g (o.set t true) A n cp zs (wr.setCell ⟨g, t, none⟩ (.bool true)) := by
  have hs := own_bool_set h.own t true
  have := count_set_b (by rw [h.ln]; exact ht) hf
  exact ⟨hs.1, h.q.far h.own hs.2 (by decide), h.nn, h.le, h.len, h.rng, by have := h.cnt; omega, h.below.setCell (by simp) _⟩
theorem FR.push {a : Aut} {w1 wr w' : World} {g n cp cp' : Nat} {t : Int} {o : List Bool} {A A' : Option Addr} {zs : List Int} (h : FR a w1 g o A n cp zs wr) (h0 : 0 ≤ t) (h1 : t < a.n) (hc : n + 1 ≤ o.count true)
    (hq : OwnM w' g 3 A' (n + 1) cp' (ints zs ++ [.int .i64 t])) (hnn : A' ≠ none) (hle : n + 1 ≤ cp') (hb : Below g wr w') (hf : ∀ (k : Nat) (t' : TypeId) (cs : Array Value), wr.heap[k]? = some (Obj.cells cs t' (0, 0)) → t' ≠ 3 → w'.heap[k]? = wr.heap[k]?) :
    FR a w1 g o A' (n + 1) cp' (zs ++ [t]) w' := by
  refine ⟨?_, by rw [ints_snoc] at hq; exact hq, hnn, hle, by simp [h.len], fun j hj => ?_, hc, h.below.trans hb⟩
  · rcases h.own.2 with ⟨hv, _⟩ | ⟨k, cap, cur, hv, hbk, hk, h4⟩
    · simp at hv
    · refine ⟨h.own.1, .inr ⟨k, cap, cur, hv, hbk, (hf k _ cur hk (by decide)).trans hk, h4⟩⟩
  · by_cases hjn : j < n
    · rw [List.getElem?_append_left (by rw [h.len]; exact hjn)]; exact h.rng j hjn
    · obtain rfl : j = n := by omega
      rw [List.getElem?_append_right (by rw [h.len]; omega)]
      simp [h.len, h0, h1]
theorem FRel.push {a : Aut} {w1 wr w' : World} {g n cp cp' S : Nat} {t s0 : Int} {o : List Bool} {A A' : Option Addr} {zs : List Int} (h : FR a w1 g o A n cp zs wr) (h0 : 0 ≤ t) (h1 : t < a.n) (hf0 : o[t.toNat]?.getD false = false) (hn : 0 < n) (hs : zs[0]?.getD 0 = s0) (hS : S = a.n - o.count true + n)
    (hq : OwnM w' g 3 A' (n + 1) cp' (ints zs ++ [.int .i64 t])) (hnn : A' ≠ none) (hle : n + 1 ≤ cp') (hb : Below g (wr.setCell ⟨g, t.toNat, none⟩ (.bool true)) w') (hf : ∀ (k : Nat) (t' : TypeId) (cs : Array Value), (wr.setCell ⟨g, t.toNat, none⟩ (.bool true)).heap[k]? = some (Obj.cells cs t' (0, 0)) → t' ≠ 3 → w'.heap[k]? = (wr.setCell ⟨g, t.toNat, none⟩ (.bool true)).heap[k]?) :
    FRel a w1 g S (.slice A' (n + 1) cp') s0 w' := by
  have hm := h.mark (t := t.toNat) (by omega) hf0
  have hc := count_set_b (by rw [h.ln]; omega) hf0
  have hc2 := count_le_len (o.set t.toNat true)
  rw [hm.ln] at hc2
  have hcn := h.cnt
  refine ⟨_, A', n + 1, cp', zs ++ [t], rfl, hm.push h0 h1 (by omega) hq hnn hle hb hf, by omega, by omega, ?_⟩
  rw [List.getElem?_append_left (by rw [h.len]; exact hn)]; exact hs
theorem FR.pop {a : Aut} {w1 wr : World} {g n cp : Nat} {o : List Bool} {A : Option Addr} {zs : List Int} (h : FR a w1 g o A n cp zs wr) (hn : 0 < n) : FR a w1 g o (if cp = 1 then A else A.map (·.add 1)) (n - 1) (cp - 1) zs.tail wr := by
  refine ⟨h.own, ?_, ?_, by have := h.le; omega, by rw [List.length_tail, h.len], fun j hj => ?_, by have := h.cnt; omega, h.below⟩
  · have := h.q.tail hn h.le
    rwa [show (ints zs).tail = ints zs.tail by simp [ints]] at this
  · split
    · exact h.nn
    · have := h.nn
      cases A <;> simp at this ⊢
  · have := h.rng (j + 1) (by omega)
    rwa [show zs.tail[j]? = zs[j + 1]? by cases zs <;> simp]
theorem FRel.pop {a : Aut} {w1 wr : World} {g S n cp : Nat} {A : Option Addr} {s0 : Int} (h : FRel a w1 g S (.slice A n cp) s0 wr) : FRel0 a w1 g (S - 1) (.slice (if cp = 1 then A else A.map (·.add 1)) (n - 1) (cp - 1)) wr := by
  obtain ⟨o, A', n', cp', zs, hv, hI, hS, hn, _⟩ := h
  injection hv with e1 e2 e3
  subst e1 e2 e3
  exact ⟨o, _, _, _, _, rfl, hI.pop hn, by omega⟩
theorem FR.start {a : Aut} {w1 : World} {g : Nat} (hs0 : 0 ≤ a.start) (hs1 : a.start < a.n)
    (hst : (w1.setCell ⟨g, a.start.toNat, none⟩ (.bool true)).ownsRow g 4 1 (.slice (some ⟨g, 0, none⟩) a.n a.n) a.n (bools ((List.replicate a.n false).set a.start.toNat true))) (hlw : g < w1.heap.size) :
    FRel0 a w1 g (a.n - ((List.replicate a.n false).set a.start.toNat true).count true + 1) (.slice (some ⟨w1.heap.size, 0, none⟩) 1 1) ((w1.setCell ⟨g, a.start.toNat, none⟩ (.bool true)).alloc (.cells #[.int .i64 a.start] 3)) := by
  refine ⟨_, _, 1, 1, [a.start], rfl, ⟨hst.alloc _, ?_, by simp, Nat.le_refl _, rfl, fun j hj => ?_, ?_, ?_⟩, rfl⟩
  · have := World.ownsRow_lit (base := g) (size := 1) (e := 3) (w1.setCell ⟨g, a.start.toNat, none⟩ (.bool true)) #[.int .i64 a.start] 1 (by simp; omega) (by decide) (by simp)
    exact OwnM.of_own (by simpa [ints] using this) (by omega)
  · obtain rfl : j = 0 := by omega
    simpa using ⟨hs0, hs1⟩
  · have : 0 < ((List.replicate a.n false).set a.start.toNat true).count true := List.count_pos_iff.2 (List.mem_iff_getElem?.2 ⟨a.start.toNat, by rw [List.getElem?_set_self (by simp; omega)]⟩)
    omega
  · exact ((Below.refl g w1).setCell (by simp) _).alloc (by simp; omega) _

set_option maxRecDepth 100000 in
theorem found_any (a : Aut) (v : Value) (w : World) (p : Nat → Prop) (h : AutV w p v a) (hf : a.Fits) (hn : a.n ≤ 1000) :
    Calls Tryz.prog 50 #[v] w fun e w' => SomeB w w' a.n e := by
  obtain ⟨A1, c1, A2, c2, rfl, h1, h2⟩ := h.fit hf
  have h2 : Sls w (· < w.heap.size) A2 a.n a.next := h2.weak (fun b _ h => h)
  have hpos := hf.pos
  have hs0 := hf.1
  have hs1 := hf.2.1
  have HF := Lib.hid hf; clear hf h1
  go_enter Tryz.func50, Tryz.ntmps50
  go_wp2_with (refine wpList_mk elBool rfl rfl _ _ rfl (w.heap.size + 1) a.n rfl rfl ?m1 ?m2 ?m3 ?_)
  case m1 => omega
  case m2 => omega
  case m3 => simp
  intro w1 hown hgr
  have hB1 : Blk w1 w.heap.size 31 #[.int .i64 a.start, .slice A1 a.n c1, .slice A2 a.n c2] := (Blk.new _ _ _).grown hgr (by simp)
  have hb1 : Below w.heap.size w w1 := (below_alloc w _).grown hgr (by simp) (by simp)
  have hb2 : Below (w.heap.size + 1) w1 w1 := Below.refl _ _
  have hs2 := h2.below hb1 (fun b h _ => h)
  have f0 := hB1.cell 0
  have f1 := hB1.cell 1
  simp at f0 f1
  have hlw : w.heap.size + 1 < w1.heap.size := by have := (hown.lt (w.heap.size + 1) (by simp [Value.ownBlock])).2; exact this
  have hown : w1.ownsRow (w.heap.size + 1) 4 1 (.slice (some ⟨w.heap.size + 1, 0, none⟩) a.n a.n) a.n (bools (List.replicate a.n false)) := by
    have := hown; simpa [bools, size_alloc] using this
  have hcs := own_bool_at hown (k := a.start.toNat) (by omega)
  have hfr := hown.frozenAt a.start.toNat
  obtain ⟨hst, hgs⟩ := own_bool_set hown a.start.toNat true
  generalize hg : w.heap.size + 1 = g at *
  clear hgr
  obtain ⟨S0, hR⟩ : ∃ S0, FRel0 a w1 g S0 (.slice (some ⟨w1.heap.size, 0, none⟩) 1 1) ((w1.setCell ⟨g, a.start.toNat, none⟩ (.bool true)).alloc (.cells #[.int .i64 a.start] 3)) := ⟨_, FR.start hs0 hs1 hst (by omega)⟩
  have hgw : w.heap.size < g := by omega
  have Hg := Lib.hid hg; clear hg
  clear hst hgs
  go_wp2_with fail
  go_loopg [4] S0 (fun gk v wr => FRel0 a w1 g gk v wr)
  case atStart => exact hR
  case round =>
    obtain ⟨o, A, n, cp, zs, rfl, hI, hS⟩ := hrel
    obtain ⟨w2, rfl⟩ : ∃ wo : World, wo = wr := ⟨_, rfl⟩
    clear hR f0 f1 hcs hfr
    have hBx := hB1.below hI.below hgw
    have f2 := hBx.cell 2
    simp at f2
    have HS := Lib.hid hS; clear hS
    have hn1 : n ≤ 1000 := by have := hI.cnt; have := count_le_len o; rw [hI.ln] at this; omega
    by_cases hn0 : 0 < n
    · have hz := hI.rng 0 hn0
      obtain ⟨gq, oq, hA, hgq, hcq⟩ := hI.q.at_ hn0
      subst hA
      have hcq : w2.cell? ⟨gq, oq, none⟩ = some (.int .i64 (zs[0]?.getD 0)) := by
        have hl := hI.len
        have := hcq
        rw [Nat.add_zero] at this
        rw [this]
        simp [ints, List.getElem?_eq_getElem (show 0 < zs.length by omega)]
      obtain ⟨bN, oN, bR, oR, cR, rfl, hpN, _, hpR, _, hcN1, hcR1⟩ := hs2.row9 HF.out (s := (zs[0]?.getD 0).toNat) (by omega) (by omega)
      have hcN := (hI.below.cell (p := ⟨bN, oN + (zs[0]?.getD 0).toNat, none⟩) (by simp; omega)).trans hcN1
      have hin : (0 : Int) < (n : Int) := by omega
      have hRl : FRel a w1 g (a.n - o.count true + n) (.slice (some ⟨gq, oq, none⟩) n cp) (zs[0]?.getD 0) w2 := ⟨o, _, n, cp, zs, rfl, hI, rfl, hn0, rfl⟩
      generalize zs[0]?.getD 0 = s0 at *
      go_wp2_with fail
      go_quiet (fail)
      go_wp2_with fail
      have hRl2 := hRl.drewN nq
      clear hRl hI hcq hcN hcN1 f2 hBx
      go_loopw [4, 31] (fun v i wr => ∃ (k : Nat), k ≤ 9 ∧ i = .int .i64 k ∧ FRel a w1 g (a.n - o.count true + n) v s0 wr) (fun _ i _ => 9 - (intOf i).toNat)
      case atStart => exact ⟨0, Nat.zero_le _, rfl, hRl2⟩
      case round =>
        obtain ⟨k3, hk3, rfl, hR3⟩ := hrel
        clear hRl2
        obtain ⟨o3, A3, n3, cp3, zs3, rfl, hI3, hS3, hn3, hz3⟩ := hR3
        have HS3 := Lib.hid hS3; have HZ3 := Lib.hid hz3; clear hS3 hz3
        by_cases hlt3 : k3 < 9
        · have hcR := (hI3.below.cell (p := ⟨bR, oR + k3, none⟩) (by simp; omega)).trans (hcR1 k3 hlt3)
          have hx := (HF.out.2.2.2 s0.toNat (by omega)).2 k3 hlt3
          generalize a.nx s0.toNat k3 = t at *
          by_cases h0 : 0 ≤ t
          · have hco := own_bool_at hI3.own (k := t.toNat) (by omega)
            have hfr := hI3.own.frozenAt t.toNat
            have hn31 : n3 ≤ 1000 := by have := hI3.cnt; have := count_le_len o3; rw [hI3.ln] at this; omega
            cases hb : o3[t.toNat]?.getD false with
            | true =>
              rw [hb] at hco; clear hb
              go_wp2
              go_roundw
              case rel => exact ⟨k3 + 1, by omega, by go_num, o3, A3, n3, cp3, zs3, rfl, hI3, HS3.out, hn3, HZ3.out⟩
              case measure => simp [intOf]; omega
            | false =>
              have Hb := Lib.hid hb
              rw [hb] at hco; clear hb
              have hIm := hI3.mark (t := t.toNat) (by omega) Hb.out
              go_wp2_with (at_builtin; refine wpList_appM elInt rfl _ _ rfl g A3 n3 cp3 (ints zs3) rfl hIm.q (.int .i64 t) _ rfl (by simp) rfl hIm.nn ?c1 ?c2 ?c3 ?_)
              case c1 => omega
              case c2 => omega
              case c3 => simp; have := hI3.below.size; omega
              intro A4 cp4 w4 hq4 hnn4 hle4 hb4 hsz4 hf4
              have Hr := Lib.hid (FRel.push hI3 h0 hx.2 Hb.out hn3 HZ3.out HS3.out hq4 hnn4 hle4 hb4 hf4)
              clear hq4 hb4 hf4
              go_wp2
              go_roundw
              case rel => exact ⟨k3 + 1, by omega, by go_num, Hr.out⟩
              case measure => simp [intOf]; omega
          · go_wp2
            go_roundw
            case rel => exact ⟨k3 + 1, by omega, by go_num, o3, A3, n3, cp3, zs3, rfl, hI3, HS3.out, hn3, HZ3.out⟩
            case measure => simp [intOf]; omega
        · obtain rfl : k3 = 9 := by omega
          have Hp := Lib.hid (FRel.pop (S := a.n - o.count true + n) (s0 := s0) ⟨o3, A3, n3, cp3, zs3, rfl, hI3, HS3.out, hn3, HZ3.out⟩)
          have hle3 := hI3.le
          have HQ := hI3.q.at_ hn3
          obtain ⟨gq3, oq3, hA3, _, _⟩ := HQ
          subst hA3
          by_cases hc1 : cp3 = 1
          · have Hp2 : Hid (FRel0 a w1 g (a.n - o.count true + n - 1) (.slice (some ⟨gq3, oq3, none⟩) (n3 - 1) (cp3 - 1)) wr) := Lib.hid (by have := Hp.out; rwa [if_pos hc1] at this)
            subst hc1
            obtain rfl : n3 = 1 := by omega
            clear Hp
            go_wp2
            go_roundg (a.n - o.count true + n - 1)
            case rel => exact Hp2.out
            case measure => rw [HS.out]; omega
          · have Hp2 : Hid (FRel0 a w1 g (a.n - o.count true + n - 1) (.slice (some ⟨gq3, oq3 + 1, none⟩) (n3 - 1) (cp3 - 1)) wr) := Lib.hid (by have := Hp.out; rwa [if_neg hc1] at this)
            clear Hp
            go_wp2
            go_roundg (a.n - o.count true + n - 1)
            case rel => exact Hp2.out
            case measure => rw [HS.out]; omega
    · obtain rfl : n = 0 := by omega
      go_wp2
      go_ret
      exact ⟨o, g, a.n, rfl, hI.own.mono (by omega), hb1.trans (hI.below.mono (by omega))⟩
end Go.Proofs.YtmnhpbbapkcdjaaGreat

/- Walks: the useful states. -/
namespace Go.Proofs.YtmnhpbbapkcdjaaGreat
open Go.RowKit

def LenLe (w w' : World) (n : Nat) (e : Ending) : Prop := ∃ A m c, e = .returned (.slice A m c) ∧ m ≤ n ∧ Below w.heap.size w w'
theorem grown_old {w0 w w' : World} {v : Value} {base n size : Nat} {e : TypeId} {xs : List Value} (h : w.ownsRow base e size v n xs) (hb : Below base w0 w) (hg : w.grownBy w' v.ownBlock) (hs : base ≤ w.heap.size) : Below base w0 w' :=
  hb.grown hg hs (fun k hk => own_ge h k hk)

set_option maxRecDepth 100000 in
theorem useful_any (a : Aut) (v : Value) (w : World) (p : Nat → Prop) (h : AutV w p v a) :
    Calls Tryz.prog 24 #[v] w fun e w' => LenLe w w' a.n e := by
  obtain ⟨A1, n1, c1, A2, n2, c2, hv, _, _⟩ := id h
  have ha := h.alloc (.cells #[.int .i64 a.start, .slice A1 n1 c1, .slice A2 n2 c2] 31)
  have hb := below_alloc w (.cells #[.int .i64 a.start, .slice A1 n1 c1, .slice A2 n2 c2] 31)
  subst hv
  cases hV : validB a with
  | false =>
    go_enter Tryz.func24, Tryz.ntmps24
    go_wp2_with (go_at_call 38; refine (implValid_any a _ _ p ha).mono ?_; rintro e w1 ⟨rfl, hb1⟩)
    go_ret
    exact ⟨none, 0, 0, rfl, Nat.zero_le _, hb.trans (hb1.mono (by simp))⟩
  | true =>
    have hf := (validB_iff.1 hV).2
    have hn := (validB_iff.1 hV).1
    have HF := Lib.hid hf; clear hf
    go_enter Tryz.func24, Tryz.ntmps24
    go_wp2_with fail
    refine (implValid_any a _ _ p ha).mono ?_; rintro e w1 ⟨rfl, hb1⟩
    obtain ⟨e0, e1, e2, hlt, hB⟩ := box3 (Blk.new w _ _) hb1
    have ha1 := ha.below hb1
    have hb2 := hb.trans (hb1.mono (by simp))
    clear ha hb hb1
    go_wp2_with fail
    go_region_held3 (fun w' => w'.cell? ⟨w.heap.size, 0, none⟩ = some (.int .i64 a.start) ∧ w'.cell? ⟨w.heap.size, 1, none⟩ = some (.slice A1 n1 c1) ∧ w'.cell? ⟨w.heap.size, 2, none⟩ = some (.slice A2 n2 c2))
      (first | go_keep | exact ⟨f0, f1, f2⟩ | exact ⟨d0, d1, d2⟩)
      (first | (go_at_call 49; refine (live_any a _ _ p (by exact ha1) HF.out (by omega)).mono ?_; rintro e w2 ⟨g, cap, rfl, hown, hb3⟩; have d0 := (hb3.cell (p := ⟨w.heap.size, 0, none⟩) hlt).trans e0; have d1 := (hb3.cell (p := ⟨w.heap.size, 1, none⟩) hlt).trans e1; have d2 := (hb3.cell (p := ⟨w.heap.size, 2, none⟩) hlt).trans e2) | (go_at_call 50; refine (found_any a _ _ p (ha1.drew.below hb3) HF.out (by omega)).mono ?_; rintro e w3 ⟨xs, g3, cap3, rfl, hown3, hb4⟩; have f0 := (hb4.cell (p := ⟨w.heap.size, 0, none⟩) (Nat.lt_of_lt_of_le hlt hb3.size)).trans d0; have f1 := (hb4.cell (p := ⟨w.heap.size, 1, none⟩) (Nat.lt_of_lt_of_le hlt hb3.size)).trans d1; have f2 := (hb4.cell (p := ⟨w.heap.size, 2, none⟩) (Nat.lt_of_lt_of_le hlt hb3.size)).trans d2))
    have hb5 : Below w.heap.size w w2 := hb2.drew.trans (hb3.mono (by have := hb2.size; exact this))
    have hb6 : Below w.heap.size w w3 := hb5.trans (hb4.mono hb5.size)
    have hown2 : w3.ownsRow w.heap.size 4 1 (.slice (some ⟨g, 0, none⟩) a.n cap) a.n (bools (liveF a)) :=
      (hown.mono hb2.size).kept (row := none) ⟨hb4.os, hb4.tape, hb4.output, hb4.size, fun k hk _ => hb4.block k hk⟩ (by simp [Value.ownBlock])
    have hown3 := hown3.mono hb5.size
    clear hown hb3 hb4 hb5 e0 e1 e2 d0 d1 d2 f0 f1 f2
    go_wp2_with fail
    have hs0 : w3.heap.size ≤ w3.heap.size := Nat.le_refl _
    have hg2 := (hown2.lt g rfl).2
    have hg3 := (hown3.lt g3 rfl).2
    go_loopw [5, 17] (fun v i wr => ∃ (k m : Nat) (A : Option Addr) (c : Nat) (ys : List Int), k ≤ a.n ∧ m ≤ k ∧ i = .int .i64 k ∧ v = .slice A m c ∧ wr.ownsRow w3.heap.size 3 1 (.slice A m c) m (ints ys) ∧ Below w3.heap.size w3 wr) (fun _ i _ => a.n - (intOf i).toNat)
    case atStart => exact ⟨0, 0, _, _, [], Nat.zero_le _, Nat.le_refl _, rfl, rfl, own0 (by simp) (by omega), below_alloc _ _⟩
    case round =>
      obtain ⟨k, m, A, c, ys, hk, hm, rfl, rfl, ho, hbr⟩ := hrel
      by_cases hlk : k < a.n
      · have hc1 := (hbr.cell (p := ⟨g, k, none⟩) hg2).trans (own_bool_at hown2 hlk)
        have hc2 := (hbr.cell (p := ⟨g3, k, none⟩) hg3).trans (own_bool_at hown3 hlk)
        generalize (liveF a)[k]?.getD false = x at *
        generalize xs[k]?.getD false = y at *
        cases x <;> cases y
        case true.true =>
          go_wp2_with (at_builtin; refine wpList_app1 elInt rfl _ _ rfl w3.heap.size _ m (ints ys) rfl ho #[.int .i64 k] _ rfl (by simp) rfl ?c0 ?c1 ?c2 ?c3 ?_)
          case c0 => simp [Value.oneCell']
          case c1 => omega
          case c2 => omega
          case c3 => exact hbr.size
          intro g4 cap4 w4 ho4 hg4 _ _ hb4
          have Hb4 := Lib.hid (grown_old ho hbr hg4 hbr.size)
          have ho4 : w4.ownsRow w3.heap.size 3 1 (.slice (some ⟨g4, 0, none⟩) (m + 1) cap4) (m + 1) (ints (ys ++ [(k : Int)])) := by rw [← ints_snoc]; exact ho4
          clear hg4
          go_wp2
          go_roundw
          case rel => exact ⟨k + 1, m + 1, _, _, _, by omega, by omega, by go_num, rfl, ho4, Hb4.out⟩
          case measure => simp [intOf]; omega
        all_goals
          go_wp2
          go_roundw
          case rel => exact ⟨k + 1, m, A, c, ys, by omega, by omega, by go_num, rfl, ho, hbr⟩
          case measure => simp [intOf]; omega
      · go_wp2
        go_ret
        exact ⟨A, m, c, rfl, by omega, hb6.trans (hbr.mono hb6.size)⟩
end Go.Proofs.YtmnhpbbapkcdjaaGreat
