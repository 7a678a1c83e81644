/- A region that draws its order, whose last operation (a store) may break what is held of memory: OrdersHeld's law, said for that. No program in sight; Walks: a node among the nodes found. No condition. -/
import Derived.Test.YtmnhpbbapkcdjaaGreatA03
import Derived.Deep.RegionHeld3
import Derived.OrdersHeld

/- A region that draws its order, whose last operation (a store) may break what is held of memory: OrdersHeld's law, said for that. No program in sight. -/
namespace Go.Proofs.YtmnhpbbapkcdjaaGreat
open Go.RowKit

section
variable {P : Program} {ops : Array Oper} {Q : Exit → Act → World → Prop} {md : Region.Mode} {S : World → Prop} {L : Nat}

/-- Whatever order is picked from here on; behind each operation but number L the condition S holds. -/
def wpAnyX (P : Program) (md : Region.Mode) (ops : Array Oper) (Q : Exit → Act → World → Prop) (S : World → Prop) (L : Nat) : Nat → Array Bool → Act → World → Prop
  | 0, listed, a, w => Region.ready md ops listed = [] ∧ Q .normal a w
  | fuel + 1, listed, a, w =>
    (Region.ready md ops listed = [] → Q .normal a w) ∧
    ∀ i ∈ Region.ready md ops listed, wpOp P ops Q i (fun a' w' => (i = L ∨ S w') ∧ wpAnyX P md ops Q S L fuel (listed.setIfInBounds i true) a' w') a w

theorem wpAny_of_X : ∀ (fuel : Nat) (listed : Array Bool) (a : Act) (w : World), wpAnyX P md ops Q S L fuel listed a w → wpAny P md ops Q fuel listed a w
  | 0, _, _, _, h => h
  | fuel + 1, _, _, _, h => ⟨h.1, fun i hi => wpOp_mono (fun a' w' h' => wpAny_of_X fuel _ a' w' h'.2) (h.2 i hi)⟩

theorem wpAnyX_first {i : Nat} {oi : Oper} {v : Value} (hi : ops[i]? = some oi) (hsel : ∀ (j : Nat) (o : Oper) cs b, ops[j]? = some o → o.op ≠ .select cs b)
    (hQ : ∀ c a w, Q (.panic c) (a.put oi.dst v) w → Q (.panic c) a w) (hL : ∀ o, ops[L]? = some o → ∃ e ∈ o.after, Region.binds md e = true ∧ e.on = i) :
    ∀ (fuel : Nat) (listed : Array Bool) (a : Act) (w : World),
      (∀ j oj, ops[j]? = some oj → j ≠ i → listed.getD j true = false → (∀ e ∈ oj.after, Region.binds md e = true → e.on ≠ i) → oi.apart ops oj = true) →
      i ∈ Region.ready md ops listed → YieldsIf P ops S oi v a → S w →
      wpAnyX P md ops Q S L fuel (listed.setIfInBounds i true) (a.put oi.dst v) w → wpAnyX P md ops Q S L (fuel + 1) listed a w := by
  intro fuel
  induction fuel with
  | zero =>
    intro listed a w _ hr hy hS H
    refine ⟨fun h => (by rw [h] at hr; cases hr), fun j hj => ?_⟩
    by_cases hji : j = i
    · subst hji; exact hy.wpOp hi hS ⟨.inr hS, H⟩
    · have := ready_mono hj hji
      rw [H.1] at this
      cases this
  | succ fuel ih =>
    intro listed a w hfree hr hy hS H
    refine ⟨fun h => (by rw [h] at hr; cases hr), fun j hj => ?_⟩
    by_cases hji : j = i
    · subst hji; exact hy.wpOp hi hS ⟨.inr hS, H⟩
    · have h1 := H.2 j (ready_mono hj hji)
      obtain ⟨hjun, oj, hoj, hall⟩ := mem_ready.1 hj
      have hnot : ∀ e ∈ oj.after, Region.binds md e = true → e.on ≠ i := fun e he hb heq => by
        have h1 := hall e he hb
        have h0 := (mem_ready.1 hr).1
        rw [heq] at h1
        rcases Nat.lt_or_ge i listed.size with h' | h'
        · simp [h'] at h0 h1; rw [h0] at h1; cases h1
        · simp [Array.getElem?_eq_none h'] at h1
      have hjL : j ≠ L := fun he => by
        subst he
        obtain ⟨e, hem, heb, heo⟩ := hL oj hoj
        exact hnot e hem heb heo
      have h2 := wpOp_putIf hoj (hfree j oj hoj hji hjun hnot) (fun cs b => hsel i oi cs b hi) (fun cs b => hsel j oj cs b hoj) hQ hy h1
      have hfree' : ∀ k ok, ops[k]? = some ok → k ≠ i → (listed.setIfInBounds j true).getD k true = false →
          (∀ e ∈ ok.after, Region.binds md e = true → e.on ≠ i) → oi.apart ops ok = true := fun k ok hk hki hun hno => by
        refine hfree k ok hk hki ?_ hno
        by_cases hjk : j = k
        · subst hjk; exact hjun
        · rw [getD_set_ne true hjk] at hun; exact hun
      refine wpOp_mono (fun a' w' h3 => ⟨h3.2.1, ih (listed.setIfInBounds j true) a' w' hfree' (ready_mono hr (Ne.symm hji)) h3.1 (h3.2.1.resolve_left hjL) ?_⟩) h2
      rw [Array.setIfInBounds_comm _ _ hji]
      exact h3.2.2

/-- does operation L wait for operation i? -/
def waitsFor (md : Region.Mode) (ops : Array Oper) (L i : Nat) : Bool := ((ops[L]?).map fun o => o.after.any fun e => Region.binds md e && e.on == i).getD true
theorem waitsFor_spec {i : Nat} (h : waitsFor md ops L i = true) : ∀ o, ops[L]? = some o → ∃ e ∈ o.after, Region.binds md e = true ∧ e.on = i := fun o ho => by
  unfold waitsFor at h
  rw [ho] at h
  simp only [Option.map_some, Option.getD_some, Array.any_eq_true] at h
  obtain ⟨k, hk, he⟩ := h
  simp only [Bool.and_eq_true, beq_iff_eq] at he
  exact ⟨o.after[k], Array.getElem_mem hk, he.1, he.2⟩

theorem wpX_take {i : Nat} {oi : Oper} {v : Value} {fuel : Nat} {listed : Array Bool} {a : Act} {w : World} (hi : ops[i]? = some oi)
    (hs : Region.noSelect ops = true) (hf : Region.free md ops listed i = true) (hr : (Region.ready md ops listed).contains i = true) (hL : waitsFor md ops L i = true)
    (hQ : ∀ c a w, Q (.panic c) (a.put oi.dst v) w → Q (.panic c) a w) (hy : YieldsIf P ops S oi v a) (hS : S w)
    (h : wpAnyX P md ops Q S L fuel (listed.setIfInBounds i true) (a.put oi.dst v) w) : wpAnyX P md ops Q S L (fuel + 1) listed a w :=
  wpAnyX_first hi (Region.noSelect_spec hs) hQ (waitsFor_spec hL) fuel listed a w (Region.free_spec hi hf) (by simpa using hr) hy hS h

/-- Only number i may come up. -/
theorem wpX_one {i : Nat} {oi : Oper} {fuel : Nat} {listed : Array Bool} {a : Act} {w : World} (hr : Region.ready md ops listed = [i]) (hi : ops[i]? = some oi)
    (h : ∀ K : Act → World → Prop, Shut (∀ a w, (i = L ∨ S w) → wpAnyX P md ops Q S L fuel (listed.setIfInBounds i true) a w → K a w) → if Region.wanted oi (yielded ops a.tmps) = true then Oper.wp P oi a w K Q else K (a.put oi.dst undef) w) :
    wpAnyX P md ops Q S L (fuel + 1) listed a w := by
  refine ⟨fun h0 => (by rw [h0] at hr; cases hr), fun j hj => ?_⟩
  rw [hr] at hj
  obtain rfl : j = i := by simpa using hj
  have h1 := h (fun a' w' => (j = L ∨ S w') ∧ wpAnyX P md ops Q S L fuel (listed.setIfInBounds j true) a' w') (fun a w h1 h2 => ⟨h1, h2⟩)
  unfold wpOp
  simp only [hi]
  split
  · rename_i hw
    rw [if_pos hw] at h1
    exact .inl h1
  · rename_i hw
    rw [if_neg hw] at h1
    exact h1

theorem wpX_done {listed : Array Bool} {a : Act} {w : World} (hr : Region.ready md ops listed = []) (h : Q .normal a w) : ∀ fuel, wpAnyX P md ops Q S L fuel listed a w
  | 0 => ⟨hr, h⟩
  | _ + 1 => ⟨fun _ => h, by rw [hr]; simp⟩

/-- THE BEGINNING. -/
theorem wp_region_X (S : World → Prop) (L : Nat) {id : Nat} {a : Act} {w : World} (hm : P.follows .mixedOrders = true)
    (h : wpAnyX P .any ops Q S L ops.size (Array.replicate ops.size false) a w.drew) : (Code.region id ops true).wp P Q a w :=
  wp_region_any hm (wpAny_of_X _ _ _ _ h)
end
end Go.Proofs.YtmnhpbbapkcdjaaGreat

/- Walks: a node among the nodes found. -/
namespace Go.Proofs.YtmnhpbbapkcdjaaGreat
open Go.RowKit

/-- a pair of states, and where it was found -/
structure Nd where
  a : Int
  b : Int
  from_ : Int
  by_ : Int
def Nd.cells (x : Nd) : List Value := [.int .i64 x.a, .int .i64 x.b, .bool false, .int .i64 x.from_, .int .i64 x.by_]
def nds (L : List Nd) : List Value := L.flatMap Nd.cells
theorem nds_len (L : List Nd) : (nds L).length = L.length * 5 := by
  induction L with
  | nil => rfl
  | cons x L ih => simp [nds, List.flatMap_cons, Nd.cells] at ih ⊢; omega
theorem nds_snoc (L : List Nd) (x : Nd) : nds (L ++ [x]) = nds L ++ x.cells := by simp [nds]
theorem nds_at : ∀ (L : List Nd) (i j : Nat), i < L.length → j < 5 → (nds L)[i * 5 + j]? = (L[i]?.map Nd.cells).bind (·[j]?)
  | [], i, j, h, _ => by simp at h
  | x :: L, 0, j, _, hj => by
    simp only [nds, List.flatMap_cons, List.getElem?_cons_zero, Option.map_some, Option.bind_some, Nat.zero_mul, Nat.zero_add]
    rw [List.getElem?_append_left (by simp [Nd.cells]; omega)]
  | x :: L, i + 1, j, h, hj => by
    have ih := nds_at L i j (by simp at h; omega) hj
    simp only [nds, List.flatMap_cons, List.getElem?_cons_succ] at ih ⊢
    rw [List.getElem?_append_right (by simp [Nd.cells]; omega), show (i + 1) * 5 + j - x.cells.length = i * 5 + j by simp [Nd.cells]; omega]
    exact ih
def nd0 : Nd := ⟨0, 0, 0, 0⟩
def hasN (L : List Nd) (x y : Int) : Bool := L.any fun n => decide (n.a = x) && decide (n.b = y)
theorem hasN_step (L : List Nd) (x y : Int) (k : Nat) (h : k < L.length) : hasN (L.drop k) x y = ((decide ((L[k]?.getD nd0).a = x) && decide ((L[k]?.getD nd0).b = y)) || hasN (L.drop (k + 1)) x y) := by
  rw [List.drop_eq_getElem_cons h, List.getElem?_eq_getElem h]; rfl
theorem hasN_end (L : List Nd) (x y : Int) (k : Nat) (h : L.length ≤ k) : hasN (L.drop k) x y = false := by rw [List.drop_eq_nil_of_le h]; rfl
/-- the nodes' cells, for reading -/
structure NdAt (w : World) (g : Nat) (L : List Nd) : Prop where
  a : ∀ i, i < L.length → w.cell? ⟨g, i * 5, none⟩ = some (.int .i64 (L[i]?.getD nd0).a)
  b : ∀ i, i < L.length → w.cell? ⟨g, i * 5 + 1, none⟩ = some (.int .i64 (L[i]?.getD nd0).b)
  c : ∀ i, i < L.length → w.cell? ⟨g, i * 5 + 2, none⟩ = some (.bool false)
theorem NdAt.of_own {w : World} {base g cap : Nat} {e : TypeId} {L : List Nd} (h : w.ownsRow base e 5 (.slice (some ⟨g, 0, none⟩) L.length cap) L.length (nds L)) : NdAt w g L := by
  have hc := fun i j (hi : i < L.length) (hj : j < 5) => h.cellAt (i * 5 + j) (by omega)
  refine ⟨fun i hi => ?_, fun i hi => ?_, fun i hi => ?_⟩
  all_goals
    obtain ⟨x, hx⟩ : ∃ x, L[i]? = some x := ⟨_, List.getElem?_eq_getElem hi⟩
    first
      | (have := hc i 0 hi (by omega); rw [nds_at L i 0 hi (by omega), hx] at this; simp only [Nat.add_zero] at this; rw [hx]; exact this)
      | (have := hc i 1 hi (by omega); rw [nds_at L i 1 hi (by omega), hx] at this; rw [hx]; exact this)
      | (have := hc i 2 hi (by omega); rw [nds_at L i 2 hi (by omega), hx] at this; exact this)
theorem NdAt.drewN {w : World} {g : Nat} {L : List Nd} (h : NdAt w g L) (d : Nat) : NdAt (w.drewN d) g L := ⟨h.a, h.b, h.c⟩

set_option maxRecDepth 100000 in
theorem l10Has_any (L : List Nd) (g cap : Nat) (x y f b : Int) (w : World) (h : NdAt w g L) (hg : g < w.heap.size) (hl : L.length ≤ 100000) :
    Calls Tryz.prog 108 #[.slice (some ⟨g, 0, none⟩) L.length cap, .agg #[.int .i64 x, .int .i64 y, .bool false, .int .i64 f, .int .i64 b]] w fun e w' => e = .returned (.bool (hasN L x y)) ∧ Below w.heap.size w w' := by
  have hB := Blk.new w 116 #[.int .i64 x, .int .i64 y, .bool false, .int .i64 f, .int .i64 b]
  have hW := below_alloc w (.cells #[.int .i64 x, .int .i64 y, .bool false, .int .i64 f, .int .i64 b] 116)
  have h1 : NdAt (w.alloc (.cells #[.int .i64 x, .int .i64 y, .bool false, .int .i64 f, .int .i64 b] 116)) g L := ⟨fun i hi => (hW.cell (p := ⟨g, i * 5, none⟩) hg).trans (h.a i hi), fun i hi => (hW.cell (p := ⟨g, i * 5 + 1, none⟩) hg).trans (h.b i hi), fun i hi => (hW.cell (p := ⟨g, i * 5 + 2, none⟩) hg).trans (h.c i hi)⟩
  obtain ⟨w1, hw1⟩ : ∃ w1, w1 = w.alloc (.cells #[.int .i64 x, .int .i64 y, .bool false, .int .i64 f, .int .i64 b] 116) := ⟨_, rfl⟩
  rw [← hw1] at hB hW h1
  have f0 := hB.cell 0; have f1 := hB.cell 1; have f2 := hB.cell 2
  simp at f0 f1 f2
  go_enter Tryz.func108, Tryz.ntmps108
  go_wp2_with fail
  go_loopw [5] (fun iv wr => ∃ k d : Nat, k ≤ L.length ∧ iv = .int .i64 k ∧ Hid (hasN L x y = hasN (L.drop k) x y) ∧ wr = w1.drewN d) (fun iv _ => L.length - (intOf iv).toNat)
  case atStart => exact ⟨0, 0, by omega, rfl, Lib.hid rfl, by rw [hw1]; rfl⟩
  case round =>
    clear hw1
    obtain ⟨k, d, hk, rfl, HF, rfl⟩ := hrel
    by_cases hlt : k < L.length
    · have HS := Lib.hid (hasN_step L x y k hlt)
      have c0 := h1.a k hlt; have c1 := h1.b k hlt; have c2 := h1.c k hlt
      have hii : (k : Int) < (L.length : Int) := by omega
      generalize L[k]?.getD nd0 = n at *
      by_cases hx : n.a = x
      · have hx' : (n.a == x) = true := by simpa using hx
        by_cases hy : n.b = y
        · have hy' : (n.b == y) = true := by simpa using hy
          have HE : Hid (hasN L x y = true) := Lib.hid (by rw [HF.out, HS.out]; simp [hx, hy])
          clear hx hy
          go_wp2_with fail
          go_quiet (fail)
          go_wp2
          go_ret
          exact ⟨by rw [HE.out]; rfl, by (try simp only [World.drewN_drewN]); exact below_drewN hW _⟩
        · have hy' : (n.b == y) = false := by simpa using hy
          have HE : Hid (hasN L x y = hasN (L.drop (k + 1)) x y) := Lib.hid (by rw [HF.out, HS.out]; simp [hy])
          clear hx hy
          go_wp2_with fail
          go_quiet (fail)
          go_wp2
          go_roundw
          case rel => exact ⟨k + 1, _, by omega, by go_num, HE, by (try simp only [World.drewN_drewN]); rfl⟩
          case measure => simp [intOf]; omega
      · have hx' : (n.a == x) = false := by simpa using hx
        have HE : Hid (hasN L x y = hasN (L.drop (k + 1)) x y) := Lib.hid (by rw [HF.out, HS.out]; simp [hx])
        clear hx
        go_wp2_with fail
        go_quiet (fail)
        go_wp2
        go_roundw
        case rel => exact ⟨k + 1, _, by omega, by go_num, HE, by (try simp only [World.drewN_drewN]); rfl⟩
        case measure => simp [intOf]; omega
    · have HE : Hid (hasN L x y = false) := Lib.hid (by rw [HF.out]; exact hasN_end L x y k (by omega))
      go_wp2
      go_ret
      exact ⟨by rw [HE.out]; rfl, below_drewN hW _⟩
end Go.Proofs.YtmnhpbbapkcdjaaGreat
