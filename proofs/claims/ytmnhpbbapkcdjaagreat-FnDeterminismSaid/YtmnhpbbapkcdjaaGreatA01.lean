/- Words for memory and the laws of append in this claim's own form. No program's text is in sight. No condition; The automaton as data, how it lies in memory; the element types of this program; Walks: small tests, and one step of an automaton. No condition. -/
import Derived.WalkKit
import Derived.WalkSpells
import Derived.WalkLawsBesides
import Derived.Lib.Hide
import Derived.Deep.AppendLies
import Derived.Deep.Draws
import Derived.Deep.QuietTactic
import Derived.BigQuiet
import Derived.Maps.AppendAt
import Derived.Test.YtmnhpbbapkcdjaaGreatRows

/- Words for memory and the laws of append in this claim's own form. No program's text is in sight. No condition. -/
namespace Go.Proofs.YtmnhpbbapkcdjaaGreat
open Go.RowKit

/-- The element type's row of the table, in one word. -/
structure El (P : Program) (t e : TypeId) (z : Value) (size bytes : Nat) : Prop where
  und : P.underlying t = some (.slice e)
  inf : (P.info? e).map (fun i => (i.zero, i.size, i.bytes)) = some (some z, size, bytes)
  zs : z.cells.size = size
  pos : 0 < size

def ints (xs : List Int) : List Value := xs.map (Value.int .i64)
def bools (xs : List Bool) : List Value := xs.map Value.bool

/-- The slice at A, of n elements of 'size' cells each, reads as the cells xs; its block meets p. -/
def Sl (w : World) (p : Nat → Prop) (size : Nat) (A : Option Addr) (n : Nat) (xs : List Value) : Prop :=
  xs.length = n * size ∧ n ≤ maxLen ∧ (0 < n → ∃ b off, A = some ⟨b, off, none⟩ ∧ p b ∧ b < w.heap.size ∧ ∀ j u, xs[j]? = some u → w.cell? ⟨b, off + j, none⟩ = some u)

section
variable {w w' : World} {p q : Nat → Prop} {size n : Nat} {A : Option Addr} {xs : List Value}
theorem Sl.len1 {zs : List Int} (h : Sl w p 1 A n (ints zs)) : zs.length = n := by have := h.1; simpa [ints] using this
theorem Sl.lenb {zs : List Bool} (h : Sl w p 1 A n (bools zs)) : zs.length = n := by have := h.1; simpa [bools] using this
theorem Sl.keep (h : Sl w p size A n xs) (hw : w.heap.size ≤ w'.heap.size) (hk : ∀ b, p b → b < w.heap.size → w'.heap[b]? = w.heap[b]?) : Sl w' p size A n xs := by
  obtain ⟨h1, h2, h3⟩ := h
  refine ⟨h1, h2, fun hn => ?_⟩
  obtain ⟨b, off, rfl, hp, hb, hc⟩ := h3 hn
  exact ⟨b, off, rfl, hp, by omega, fun j u hu => (World.cell?_of_block (hk b hp hb)).trans (hc j u hu)⟩
theorem Sl.weak (h : Sl w p size A n xs) (hq : ∀ b, p b → b < w.heap.size → q b) : Sl w q size A n xs := by
  obtain ⟨h1, h2, h3⟩ := h
  refine ⟨h1, h2, fun hn => ?_⟩
  obtain ⟨b, off, rfl, hp, hb, hc⟩ := h3 hn
  exact ⟨b, off, rfl, hq b hp hb, hb, hc⟩
theorem Sl.below {B : Nat} (h : Sl w p size A n xs) (hb : Below B w w') (hp : ∀ b, p b → b < w.heap.size → b < B) : Sl w' p size A n xs :=
  h.keep hb.size fun b hpb hlt => hb.block b (hp b hpb hlt)
theorem Sl.int_at {zs : List Int} {k : Nat} (h : Sl w p 1 A n (ints zs)) (hk : k < n) :
    ∃ b off, A = some ⟨b, off, none⟩ ∧ p b ∧ b < w.heap.size ∧ w.cell? ⟨b, off + k, none⟩ = some (.int .i64 (zs[k]?.getD 0)) := by
  have hl := h.len1
  obtain ⟨b, off, rfl, hp, hb, hc⟩ := h.2.2 (by omega)
  exact ⟨b, off, rfl, hp, hb, hc k _ (by simp [ints, List.getElem?_eq_getElem (show k < zs.length by omega)])⟩
theorem Sl.bool_at {zs : List Bool} {k : Nat} (h : Sl w p 1 A n (bools zs)) (hk : k < n) :
    ∃ b off, A = some ⟨b, off, none⟩ ∧ p b ∧ b < w.heap.size ∧ w.cell? ⟨b, off + k, none⟩ = some (.bool (zs[k]?.getD false)) := by
  have hl := h.lenb
  obtain ⟨b, off, rfl, hp, hb, hc⟩ := h.2.2 (by omega)
  exact ⟨b, off, rfl, hp, hb, hc k _ (by simp [bools, List.getElem?_eq_getElem (show k < zs.length by omega)])⟩
theorem Sl.cell_at {k : Nat} (h : Sl w p 1 A n xs) (hk : k < n) :
    ∃ b off u, A = some ⟨b, off, none⟩ ∧ p b ∧ b < w.heap.size ∧ xs[k]? = some u ∧ w.cell? ⟨b, off + k, none⟩ = some u := by
  have hl := h.1
  obtain ⟨b, off, rfl, hp, hb, hc⟩ := h.2.2 (by omega)
  have hx : k < xs.length := by omega
  exact ⟨b, off, xs[k], rfl, hp, hb, List.getElem?_eq_getElem hx, hc k _ (List.getElem?_eq_getElem hx)⟩
theorem Sl.nil_ : Sl w p size none 0 [] := ⟨by simp, Nat.zero_le _, fun h => absurd h (by omega)⟩
theorem Sl.al {w : World} {p : Nat → Prop} {size n : Nat} {A : Option Addr} {xs : List Value} (h : Sl w p size A n xs) (o : Obj) : Sl (w.alloc o) p size A n xs :=
  h.keep (by simp) fun b _ hb => Below.heap_alloc w o b hb
theorem Sl.set_ {w : World} {p : Nat → Prop} {size n : Nat} {A : Option Addr} {xs : List Value} (h : Sl w p size A n xs) {a : Addr} (u : Value) (hp : ∀ b, p b → b ≠ a.block) : Sl (w.setCell a u) p size A n xs :=
  h.keep (by simp) fun b hb _ => Below.heap_setCell w a u b (hp b hb)
theorem Sl.of_own {base : Nat} {e : TypeId} {c : Nat} (h : w.ownsRow base e size (.slice A n c) n xs) (hp : ∀ b, (Value.slice A n c).ownBlock = some b → p b) : Sl w p size A n xs := by
  refine ⟨h.1, ?_, fun hn => ?_⟩
  · rcases h.2 with ⟨_, h0⟩ | ⟨g, cap, cur, hv, _, _, hn, hm, _⟩
    · omega
    · omega
  · obtain ⟨g, cap, hv, _, hlt⟩ := h.form hn
    obtain rfl : A = some ⟨g, 0, none⟩ := by injection hv
    refine ⟨g, 0, rfl, hp g rfl, hlt, fun j u hu => ?_⟩
    have := h.cells (g := g) rfl j u hu
    unfold Addr.add at this
    split at this
    · subst_vars; exact this
    · simpa using this
end

/-- A slice of slices of integers: each row lies in a block that meets p. -/
def Sls (w : World) (p : Nat → Prop) (A : Option Addr) (n : Nat) (rows : List (List Int)) : Prop :=
  ∃ vs : List Value, Sl w p 1 A n vs ∧ vs.length = rows.length ∧ ∀ (j : Nat) (r : List Int), rows[j]? = some r → ∃ (A' : Option Addr) (c' : Nat), vs[j]? = some (Value.slice A' r.length c') ∧ Sl w p 1 A' r.length (ints r)

section
variable {w w' : World} {p q : Nat → Prop} {n : Nat} {A : Option Addr} {rows : List (List Int)}
theorem Sls.len (h : Sls w p A n rows) : rows.length = n := by obtain ⟨vs, h1, h2, _⟩ := h; have := h1.1; omega
theorem Sls.le (h : Sls w p A n rows) : n ≤ maxLen := by obtain ⟨vs, h1, h2, _⟩ := h; exact h1.2.1
theorem Sls.keep (h : Sls w p A n rows) (hw : w.heap.size ≤ w'.heap.size) (hk : ∀ b, p b → b < w.heap.size → w'.heap[b]? = w.heap[b]?) : Sls w' p A n rows := by
  obtain ⟨vs, h1, h2, h3⟩ := h
  refine ⟨vs, h1.keep hw hk, h2, fun j r hr => ?_⟩
  obtain ⟨A', c', hv, hs⟩ := h3 j r hr
  exact ⟨A', c', hv, hs.keep hw hk⟩
theorem Sls.weak (h : Sls w p A n rows) (hq : ∀ b, p b → b < w.heap.size → q b) : Sls w q A n rows := by
  obtain ⟨vs, h1, h2, h3⟩ := h
  refine ⟨vs, h1.weak hq, h2, fun j r hr => ?_⟩
  obtain ⟨A', c', hv, hs⟩ := h3 j r hr
  exact ⟨A', c', hv, hs.weak hq⟩
theorem Sls.below {B : Nat} (h : Sls w p A n rows) (hb : Below B w w') (hp : ∀ b, p b → b < w.heap.size → b < B) : Sls w' p A n rows :=
  h.keep hb.size fun b hpb hlt => hb.block b (hp b hpb hlt)
theorem Sls.row_at {k : Nat} (h : Sls w p A n rows) (hk : k < n) :
    ∃ b off A' m c', A = some ⟨b, off, none⟩ ∧ p b ∧ b < w.heap.size ∧ w.cell? ⟨b, off + k, none⟩ = some (.slice A' m c') ∧ m = (rows[k]?.getD []).length ∧ Sl w p 1 A' m (ints (rows[k]?.getD [])) := by
  have hl := h.len
  obtain ⟨vs, h1, h2, h3⟩ := h
  obtain ⟨b, off, u, rfl, hp, hb, hu, hc⟩ := h1.cell_at hk
  obtain ⟨A', c', hv, hs⟩ := h3 k (rows[k]'(by omega)) (List.getElem?_eq_getElem (by omega))
  rw [hu] at hv
  injection hv with hv
  subst hv
  rw [List.getElem?_eq_getElem (show k < rows.length by omega)]
  exact ⟨b, off, A', _, c', rfl, hp, hb, hc, rfl, hs⟩
theorem Sls.nil_ : Sls w p none 0 [] := ⟨[], Sl.nil_, rfl, fun j r h => by simp at h⟩
end

/-- Block g is just the cells cs, none frozen. -/
def Blk (w : World) (g : Nat) (t : TypeId) (cs : Array Value) : Prop := w.heap[g]? = some (.cells cs t (0, 0))
section
variable {w w' : World} {g : Nat} {t : TypeId} {cs : Array Value}
theorem Blk.lt (h : Blk w g t cs) : g < w.heap.size := by
  rcases Nat.lt_or_ge g w.heap.size with hlt | hge
  · exact hlt
  · unfold Blk at h; rw [Array.getElem?_eq_none hge] at h; cases h
theorem Blk.cell (h : Blk w g t cs) (i : Nat) : w.cell? ⟨g, i, none⟩ = cs[i]? := cell_of_row w g i cs t (0, 0) h
theorem Blk.frozen (h : Blk w g t cs) (i : Nat) : w.frozen? ⟨g, i, none⟩ = false := frozen_of_row w g i cs t h
theorem Blk.new (w : World) (t : TypeId) (cs : Array Value) : Blk (w.alloc (.cells cs t)) w.heap.size t cs := heap_alloc_new w _
theorem Blk.alloc (h : Blk w g t cs) (o : Obj) : Blk (w.alloc o) g t cs := (Below.heap_alloc w o g h.lt).trans h
theorem Blk.set_ (h : Blk w g t cs) (i : Nat) (u : Value) : Blk (w.setCell ⟨g, i, none⟩ u) g t (cs.setIfInBounds i u) := heap_setCell_same w g i cs t u h
theorem Blk.set3 {x y z x' y' z' : Value} (h : Blk w g t #[x, y, z]) : Blk (((w.setCell ⟨g, 0, none⟩ x').setCell ⟨g, 1, none⟩ y').setCell ⟨g, 2, none⟩ z') g t #[x', y', z'] := by
  have := ((h.set_ 0 x').set_ 1 y').set_ 2 z'
  simpa using this
theorem Blk.same (h : Blk w g t cs) (hw : w'.heap[g]? = w.heap[g]?) : Blk w' g t cs := hw.trans h
theorem Blk.below {B : Nat} (h : Blk w g t cs) (hb : Below B w w') (hg : g < B) : Blk w' g t cs := (hb.block g hg).trans h
theorem Blk.grown {row : Option Nat} (h : Blk w g t cs) (hb : w.grownBy w' row) (hg : some g ≠ row) : Blk w' g t cs := (hb.block g h.lt hg).trans h
theorem Blk.ne_ {g' : Nat} {t' : TypeId} {cs' : Array Value} (h : Blk w g t cs) (h' : Blk w g' t' cs') (hne : t ≠ t') : g ≠ g' := by
  rintro rfl
  unfold Blk at h h'
  rw [h] at h'
  injection h' with h'
  injection h' with _ ht
  exact hne ht
end

section
variable {P : Program} {ops : Array Oper} {rest : List Oper} {o : Oper} {a : Act} {Q : Exit → Act → World → Prop} {t e : TypeId} {z : Value} {size bytes : Nat}
/-- append(s, x), one element, which lies in a new block of its own. -/
theorem wpList_app1 {w : World} (E : El P t e z size bytes) (hgd : o.guard = none) (s x : Operand)
    (ho : o.op = .call { callee := .builtin .append, args := #[s, x], argTypes := #[t, t] })
    (base : Nat) (v : Value) (n : Nat) (xs : List Value) (hs : a.eval s = v) (hown : w.ownsRow base e size v n xs)
    (cs : Array Value) (H : Nat) (hx : a.eval x = .slice (some ⟨H, 0, none⟩) 1 1) (hH : H = w.heap.size) (hl : cs.size = size) (h1 : ∀ u ∈ cs.toList, u.oneCell' = true)
    (hb : (n + 1) * bytes ≤ 140737488355328) (h63 : n + 1 ≤ 9223372036854775807) (hbase : base ≤ w.heap.size)
    (h : ∀ g cap w', w'.ownsRow base e size (.slice (some ⟨g, 0, none⟩) (n + 1) cap) (n + 1) (xs ++ cs.toList) → w.grownBy w' v.ownBlock → (v.ownBlock = some g ∨ w.heap.size < g) → g < w'.heap.size →
      base ≤ g → wpList P ops Q rest (a.put o.dst (.slice (some ⟨g, 0, none⟩) (n + 1) cap)) w') : wpList P ops Q (o :: rest) a (w.alloc (.cells cs e)) := by
  subst hH
  obtain ⟨i, hi, hz, hs1, hb1⟩ := info_parts E.inf
  refine wpList_append_lies (w.alloc (.cells cs e)) hgd s x t ho base e i z size bytes E.und hi hz hs1 hb1 E.zs E.pos v n xs hs (hown.alloc _) ⟨w.heap.size, 0, none⟩ 1 1 cs.toList hx
    (by simpa using hl) (World.news_of_block (heap_alloc_new w _)) h1 (by decide) (by unfold maxLen; omega) hb (by simp; omega) _ rfl ?_
  intro g cap w' h2 h3 h4 h5
  refine h g cap w' h2 ?_ ?_ h5 ?_
  · exact ⟨h3.os, h3.tape, h3.output, by have := h3.size; simp at this; omega, fun k hk hne => (h3.block k (by simp; omega) hne).trans (Below.heap_alloc w _ k hk)⟩
  · rcases h4 with h4 | h4
    · exact .inl h4
    · right; rw [h4]; simp
  · obtain ⟨g', cap', hv, hbg, _⟩ := h2.form (by omega)
    simp only [Value.slice.injEq, Option.some.injEq, Addr.mk.injEq, and_true, true_and] at hv
    omega

/-- the same in a region that draws its order -/
theorem step_app1 {w : World} {K : Act → World → Prop} {E' : Prop} (E : El P t e z size bytes) (hgd : o.guard = none) (s x : Operand)
    (ho : o.op = .call { callee := .builtin .append, args := #[s, x], argTypes := #[t, t] })
    (base : Nat) (v : Value) (n : Nat) (xs : List Value) (hs : a.eval s = v) (hown : w.ownsRow base e size v n xs)
    (cs : Array Value) (H : Nat) (hx : a.eval x = .slice (some ⟨H, 0, none⟩) 1 1) (hH : H = w.heap.size) (hl : cs.size = size) (h1 : ∀ u ∈ cs.toList, u.oneCell' = true)
    (hb : (n + 1) * bytes ≤ 140737488355328) (h63 : n + 1 ≤ 9223372036854775807) (hbase : base ≤ w.heap.size)
    (h : ∀ g cap w', w'.ownsRow base e size (.slice (some ⟨g, 0, none⟩) (n + 1) cap) (n + 1) (xs ++ cs.toList) → w.grownBy w' v.ownBlock → (v.ownBlock = some g ∨ w.heap.size < g) → g < w'.heap.size →
      base ≤ g → K (a.put o.dst (.slice (some ⟨g, 0, none⟩) (n + 1) cap)) w') :
    if Region.wanted o (yielded ops a.tmps) = true then Oper.wp P o a (w.alloc (.cells cs e)) K Q else E' := by
  subst hH
  obtain ⟨i, hi, hz, hs1, hb1⟩ := info_parts E.inf
  refine step_append_lies (w.alloc (.cells cs e)) hgd s x t ho base e i z size bytes E.und hi hz hs1 hb1 E.zs E.pos v n xs hs (hown.alloc _) ⟨w.heap.size, 0, none⟩ 1 1 cs.toList hx
    (by simpa using hl) (World.news_of_block (heap_alloc_new w _)) h1 (by decide) (by unfold maxLen; omega) hb (by simp; omega) _ rfl ?_
  intro g cap w' h2 h3 h4 h5
  refine h g cap w' h2 ?_ ?_ h5 ?_
  · exact ⟨h3.os, h3.tape, h3.output, by have := h3.size; simp at this; omega, fun k hk hne => (h3.block k (by simp; omega) hne).trans (Below.heap_alloc w _ k hk)⟩
  · rcases h4 with h4 | h4
    · exact .inl h4
    · right; rw [h4]; simp
  · obtain ⟨g', cap', hv, hbg, _⟩ := h2.form (by omega)
    simp only [Value.slice.injEq, Option.some.injEq, Addr.mk.injEq, and_true, true_and] at hv
    omega

/-- make([]T, n): n zeros in a row of the call's own. -/
theorem wpList_mk {w : World} (E : El P t e z 1 bytes) (hz1 : z.cells = #[z]) (hgd : o.guard = none) (l c : Operand) (hop : o.op = Op.makeSlice t l c)
    (base n : Nat) (hl : a.eval l = .int .i64 (n : Int)) (hc : a.eval c = .int .i64 (n : Int)) (hb : bytes * n ≤ 281474976710656) (h63 : n ≤ 9223372036854775807) (hbase : base ≤ w.heap.size)
    (h : ∀ w', w'.ownsRow base e 1 (.slice (some ⟨w.heap.size, 0, none⟩) n n) n (List.replicate n z) → w.grownBy w' none → wpList P ops Q rest (a.put o.dst (.slice (some ⟨w.heap.size, 0, none⟩) n n)) w') : wpList P ops Q (o :: rest) a w := by
  obtain ⟨i, hi, hz, hs1, hb1⟩ := info_parts E.inf
  refine wpList_make_full w hgd l c t hop base e i z 1 E.und hi hz hs1 .i64 .i64 n n n hl hc rfl rfl (by rw [hb1]; exact hb) (by unfold maxLen; omega) hbase fun w' hown hg => ?_
  rw [Nat.mul_one, hz1, toList_madeCells_one] at hown
  exact h w' hown hg

/-- append(s, x...), x any slice that reads as a list; s owns its row. -/
theorem wpList_apps {w : World} (E : El P t e z size bytes) (hgd : o.guard = none) (s x : Operand)
    (ho : o.op = .call { callee := .builtin .append, args := #[s, x], argTypes := #[t, t] })
    (base : Nat) (v : Value) (n : Nat) (xs : List Value) (hs : a.eval s = v) (hown : w.ownsRow base e size v n xs)
    (p : Nat → Prop) (A : Option Addr) (m c : Nat) (news : List Value) (hx : a.eval x = .slice A m c) (hr : Sl w p size A m news) (h1 : ∀ u ∈ news, u.oneCell' = true)
    (hb : (n + m) * bytes ≤ 140737488355328) (h63 : n + m ≤ 9223372036854775807) (hbase : base ≤ w.heap.size)
    (h : ∀ v' w', w'.ownsRow base e size v' (n + m) (xs ++ news) → w.grownBy w' v.ownBlock → (v'.ownBlock = v.ownBlock ∨ v'.ownBlock = some w.heap.size) →
      wpList P ops Q rest (a.put o.dst v') w') : wpList P ops Q (o :: rest) a w := by
  obtain ⟨i, hi, hz, hs1, hb1⟩ := info_parts E.inf
  have key : ∃ v' w', (Builtin.append_ #[t, t] o.type #[v, .slice A m c]).run P w = .ok v' w' ∧ w'.ownsRow base e size v' (n + m) (xs ++ news) ∧ w.grownBy w' v.ownBlock ∧
      (v'.ownBlock = v.ownBlock ∨ v'.ownBlock = some w.heap.size) := by
    rcases A with _ | ad
    · have hm : m = 0 := by
        rcases Nat.eq_zero_or_pos m with h0 | h0
        · exact h0
        · obtain ⟨b, off, h, _⟩ := hr.2.2 h0
          cases h
      subst hm
      have hn : news = [] := List.eq_nil_of_length_eq_zero (by simpa using hr.1)
      subst hn
      refine ⟨v, w, ?_, by simpa using hown, World.grownBy.refl w _, .inl rfl⟩
      rcases hown.2 with ⟨rfl, rfl⟩ | ⟨g, cap, cur, rfl, _, _, hnc, _⟩
      · simp [Builtin.append_, run_underlying E.und, sizeOf, typeInfo, hi, Builtin.lenOf, Builtin.firstCells]
      · simp [Builtin.append_, run_underlying E.und, sizeOf, typeInfo, hi, Builtin.lenOf, Builtin.firstCells, hnc, storeCells]
    · have hcells : ∀ j u, news[j]? = some u → w.cell? (ad.add j) = some u := by
        intro j u hu
        rcases Nat.eq_zero_or_pos m with h0 | h0
        · subst h0
          have hn : news = [] := List.eq_nil_of_length_eq_zero (by simpa using hr.1)
          subst hn
          simp at hu
        · obtain ⟨b, off, hA, _, _, hc⟩ := hr.2.2 h0
          injection hA with hA
          subst hA
          unfold Addr.add
          split
          · have := hc j u hu; simpa [*] using this
          · exact hc j u hu
      obtain ⟨v', w', hrun, h2, h3, _, h5⟩ := run_append_own_at (P := P) w base t o.type e i z size bytes E.und hi hz hs1 hb1 E.zs E.pos v n xs hown ad m c news hr.1 hcells h1 (by unfold maxLen; omega) hb hbase
      exact ⟨v', w', hrun, h2, h3, h5⟩
  obtain ⟨v', w', hrun, h2, h3, h4⟩ := key
  refine wpList_plain hgd fun K hK => ?_
  unfold Oper.wp execOp
  simp only [ho, resolve, invoke, builtin, Sem.run_bind, Sem.run_pure, Result.andThen_ok, List.map_toArray, List.map_cons, List.map_nil, hs, hx, hrun]
  exact hK _ _ (h v' w' h2 h3 h4)
end

/-- '[]T{}': an empty slice of the call's own. -/
theorem own0 {w : World} {base size g : Nat} {e : TypeId} (hg : g = w.heap.size) (hb : base ≤ g) : (w.alloc (.cells #[] e)).ownsRow base e size (.slice (some ⟨g, 0, none⟩) 0 0) 0 [] := by
  subst hg
  exact World.ownsRow_lit w #[] 0 hb (Nat.zero_le _) (by simp)
theorem sl_new {w : World} {p : Nat → Prop} {cs : Array Value} {t : TypeId} {n size g : Nat} (hg : g = w.heap.size) (hp : p g) (hn : n ≤ maxLen) (hs : cs.size = n * size) : Sl (w.alloc (.cells cs t)) p size (some ⟨g, 0, none⟩) n cs.toList := by
  subst hg
  exact Sl.of_own (World.ownsRow_lit (base := 0) w cs n (Nat.zero_le _) hn hs) (fun b hb => by simp only [Value.ownBlock, Option.some.injEq] at hb; subst hb; exact hp)
theorem size_alloc (w : World) (o : Obj) : (w.alloc o).heap.size = w.heap.size + 1 := by simp
theorem below_alloc (w : World) (o : Obj) : Below w.heap.size w (w.alloc o) := (Below.refl _ _).alloc (Nat.le_refl _) o
theorem below_alloc2 (w : World) (o o' : Obj) : Below w.heap.size w ((w.alloc o).alloc o') := (below_alloc w o).alloc (by simp) o'
theorem own_ge {w : World} {base : Nat} {e : TypeId} {size n : Nat} {v : Value} {xs : List Value} (h : w.ownsRow base e size v n xs) : ∀ k, v.ownBlock = some k → base ≤ k := fun k hk => (h.lt k hk).1
theorem own_blk_ne {w : World} {base g : Nat} {e t : TypeId} {size n : Nat} {v : Value} {xs : List Value} {cs : Array Value} (h : w.ownsRow base e size v n xs) (hg : Blk w g t cs) (hne : e ≠ t) : some g ≠ v.ownBlock := by
  rcases h.2 with ⟨rfl, _⟩ | ⟨g', cap, cur, rfl, _, hh, _⟩
  · simp [Value.ownBlock]
  · intro he
    obtain rfl : g = g' := by simpa [Value.ownBlock] using he
    exact Blk.ne_ (t := e) hh hg hne rfl
theorem own_ne {w : World} {base base' : Nat} {e e' : TypeId} {size size' n n' : Nat} {v v' : Value} {xs xs' : List Value} (h : w.ownsRow base e size v n xs) (h' : w.ownsRow base' e' size' v' n' xs') (hne : e ≠ e') : v.ownBlock = none ∨ v.ownBlock ≠ v'.ownBlock := by
  rcases h.2 with ⟨rfl, _⟩ | ⟨g, cap, cur, rfl, _, hh, _⟩
  · simp [Value.ownBlock]
  · right
    exact own_blk_ne h' (g := g) (t := e) hh (Ne.symm hne)

theorem own_bool_at {w : World} {base g n cap : Nat} {e : TypeId} {xs : List Bool} (h : w.ownsRow base e 1 (.slice (some ⟨g, 0, none⟩) n cap) n (bools xs)) {k : Nat} (hk : k < n) : w.cell? ⟨g, k, none⟩ = some (.bool (xs[k]?.getD false)) := by
  rw [h.cellAt k (by omega)]
  have hl := h.1
  simp only [bools, List.length_map] at hl
  simp [bools, List.getElem?_eq_getElem (show k < xs.length by omega)]
theorem own_int_at {w : World} {base g n cap : Nat} {e : TypeId} {xs : List Int} (h : w.ownsRow base e 1 (.slice (some ⟨g, 0, none⟩) n cap) n (ints xs)) {k : Nat} (hk : k < n) : w.cell? ⟨g, k, none⟩ = some (.int .i64 (xs[k]?.getD 0)) := by
  rw [h.cellAt k (by omega)]
  have hl := h.1
  simp only [ints, List.length_map] at hl
  simp [ints, List.getElem?_eq_getElem (show k < xs.length by omega)]
theorem own_bool_set {w : World} {base g n cap : Nat} {e : TypeId} {xs : List Bool} (h : w.ownsRow base e 1 (.slice (some ⟨g, 0, none⟩) n cap) n (bools xs)) (k : Nat) (b : Bool) :
    (w.setCell ⟨g, k, none⟩ (.bool b)).ownsRow base e 1 (.slice (some ⟨g, 0, none⟩) n cap) n (bools (xs.set k b)) ∧ w.grownBy (w.setCell ⟨g, k, none⟩ (.bool b)) (some g) := by
  have := h.stored k (.bool b)
  refine ⟨?_, this.2⟩
  have e1 : bools (xs.set k b) = (bools xs).set k (.bool b) := by simp [bools, List.map_set]
  rw [e1]; exact this.1
theorem own_int_set {w : World} {base g n cap : Nat} {e : TypeId} {xs : List Int} (h : w.ownsRow base e 1 (.slice (some ⟨g, 0, none⟩) n cap) n (ints xs)) (k : Nat) (b : Int) :
    (w.setCell ⟨g, k, none⟩ (.int .i64 b)).ownsRow base e 1 (.slice (some ⟨g, 0, none⟩) n cap) n (ints (xs.set k b)) ∧ w.grownBy (w.setCell ⟨g, k, none⟩ (.int .i64 b)) (some g) := by
  have := h.stored k (.int .i64 b)
  refine ⟨?_, this.2⟩
  have e1 : ints (xs.set k b) = (ints xs).set k (.int .i64 b) := by simp [ints, List.map_set]
  rw [e1]; exact this.1
theorem grown_trans {a b c : World} {row : Option Nat} (h : a.grownBy b row) (k : b.grownBy c row) : a.grownBy c row :=
  ⟨k.os.trans h.os, k.tape.trans h.tape, k.output.trans h.output, Nat.le_trans h.size k.size, fun i hi hne => (k.block i (Nat.lt_of_lt_of_le hi h.size) hne).trans (h.block i hi hne)⟩
theorem grown_below {B : Nat} {a b : World} {row : Option Nat} (h : a.grownBy b row) (hB : B ≤ a.heap.size) (hr : ∀ k, row = some k → B ≤ k) : Below B a b := (Below.refl _ _).grown h hB hr

/-- a box of three cells behind a call that only made memory. -/
theorem box3 {w W w1 : World} {x y z : Value} {t : TypeId} (hW : Blk W w.heap.size t #[x, y, z]) (h : Below W.heap.size W w1) :
    w1.cell? ⟨w.heap.size, 0, none⟩ = some x ∧ w1.cell? ⟨w.heap.size, 1, none⟩ = some y ∧ w1.cell? ⟨w.heap.size, 2, none⟩ = some z ∧ w.heap.size < w1.heap.size ∧ Blk w1 w.heap.size t #[x, y, z] := by
  have hB : Blk w1 w.heap.size t #[x, y, z] := hW.below h hW.lt
  exact ⟨hB.cell 0, hB.cell 1, hB.cell 2, hB.lt, hB⟩

theorem box5 {w W w1 : World} {x y z u v : Value} {t : TypeId} (hW : Blk W w.heap.size t #[x, y, z, u, v]) (h : Below W.heap.size W w1) :
    w1.cell? ⟨w.heap.size, 0, none⟩ = some x ∧ w1.cell? ⟨w.heap.size, 1, none⟩ = some y ∧ w1.cell? ⟨w.heap.size, 2, none⟩ = some z ∧ w1.cell? ⟨w.heap.size, 3, none⟩ = some u ∧ w1.cell? ⟨w.heap.size, 4, none⟩ = some v ∧ w.heap.size < w1.heap.size ∧ Blk w1 w.heap.size t #[x, y, z, u, v] := by
  have hB : Blk w1 w.heap.size t #[x, y, z, u, v] := hW.below h hW.lt
  exact ⟨hB.cell 0, hB.cell 1, hB.cell 2, hB.cell 3, hB.cell 4, hB.lt, hB⟩
theorem lt_succ_all {P : Nat → Prop} {k : Nat} (h : ∀ j, j < k → P j) (hk : P k) : ∀ j, j < k + 1 → P j := fun j hj => by
  rcases Nat.lt_succ_iff_lt_or_eq.1 hj with h1 | rfl
  · exact h j h1
  · exact hk
theorem ints_one (zs : List Int) : ∀ u ∈ ints zs, u.oneCell' = true := by
  intro u hu; simp only [ints, List.mem_map] at hu; obtain ⟨x, _, rfl⟩ := hu; rfl
theorem bools_one (zs : List Bool) : ∀ u ∈ bools zs, u.oneCell' = true := by
  intro u hu; simp only [bools, List.mem_map] at hu; obtain ⟨x, _, rfl⟩ := hu; rfl
theorem ints_snoc (zs : List Int) (x : Int) : ints zs ++ [.int .i64 x] = ints (zs ++ [x]) := by simp [ints]
theorem bools_snoc (zs : List Bool) (x : Bool) : bools zs ++ [.bool x] = bools (zs ++ [x]) := by simp [bools]

/-- w' is w, some draws later. -/
def Drew (w w' : World) : Prop := ∃ d, w' = w.drewN d
theorem Drew.below {w w' : World} (h : Drew w w') (B : Nat) : Below B w w' := by obtain ⟨d, rfl⟩ := h; exact below_drewN (Below.refl _ _) d
theorem Drew.refl (w : World) : Drew w w := ⟨0, rfl⟩
theorem Drew.mk (w : World) (d : Nat) : Drew w (w.drewN d) := ⟨d, rfl⟩
theorem Drew.trans {a b c : World} (h : Drew a b) (k : Drew b c) : Drew a c := by
  obtain ⟨d, rfl⟩ := h
  obtain ⟨d', rfl⟩ := k
  exact ⟨d + d', by rw [World.drewN_drewN]⟩
theorem Drew.one {w w' : World} (h : Drew w w') : Drew w w'.drew := by obtain ⟨d, rfl⟩ := h; exact ⟨d + 1, rfl⟩
theorem Drew.heap {w w' : World} (h : Drew w w') : w'.heap = w.heap := by obtain ⟨d, rfl⟩ := h; rfl
theorem quietD1 {P : Program} {f : FuncId} {args : Array Value} {w : World} {n : Nat} {v : Value} (h : Calls P f args (w.drewN n) fun e w' => e = .returned v ∧ Drew (w.drewN n) w') :
    Calls P f args (w.drewN n) fun e w'' => e = .returned v ∧ ∃ m, w'' = w.drewN m :=
  h.mono fun _ _ ⟨he, m, hm⟩ => ⟨he, n + m, by rw [hm, World.drewN_drewN]⟩
theorem quietD2 {P : Program} {f : FuncId} {args : Array Value} {w : World} {a n : Nat} {v : Value} (h : Calls P f args (w.drewN (a + n)) fun e w' => e = .returned v ∧ Drew (w.drewN (a + n)) w') :
    Calls P f args (w.drewN (a + n)) fun e w'' => e = .returned v ∧ ∃ m, w'' = w.drewN (a + m) :=
  h.mono fun _ _ ⟨he, m, hm⟩ => ⟨he, n + m, by rw [hm, World.drewN_drewN, Nat.add_assoc]⟩
theorem Drew.sl {w w' : World} {p : Nat → Prop} {size n : Nat} {A : Option Addr} {xs : List Value} (hd : Drew w w') (h : Sl w p size A n xs) : Sl w' p size A n xs := by obtain ⟨d, rfl⟩ := hd; exact h
theorem Drew.sls {w w' : World} {p : Nat → Prop} {n : Nat} {A : Option Addr} {xs : List (List Int)} (hd : Drew w w') (h : Sls w p A n xs) : Sls w' p A n xs := by obtain ⟨d, rfl⟩ := hd; exact h
theorem ret_int {a b : Int} (h : a = b) : Ending.returned (.int .i64 a) = .returned (.int .i64 b) := by rw [h]
theorem ret_bool {a b : Bool} (h : a = b) : Ending.returned (.bool a) = .returned (.bool b) := by rw [h]

/-- f, k times, each round knowing its number. -/
def upto {α : Type} (f : α → Nat → α) (a : α) : Nat → α
  | 0 => a
  | k + 1 => f (upto f a k) k
theorem upto_inv {α : Type} (I : α → Prop) {f : α → Nat → α} {a : α} (h0 : I a) (hs : ∀ x k, I x → I (f x k)) : ∀ k, I (upto f a k)
  | 0 => h0
  | k + 1 => hs _ _ (upto_inv I h0 hs k)

end Go.Proofs.YtmnhpbbapkcdjaaGreat

/- The automaton as data, how it lies in memory; the element types of this program. -/
namespace Go.Proofs.YtmnhpbbapkcdjaaGreat
open Go.RowKit

structure Aut where
  start : Int
  acc : List Bool
  next : List (List Int)

/-- the automaton's number at state s and letter k -/
def Aut.nx (a : Aut) (s k : Nat) : Int := (a.next[s]?.getD [])[k]?.getD 0
def Aut.n (a : Aut) : Nat := a.acc.length
/-- what l11Fits asks -/
def Aut.Fits (a : Aut) : Prop := 0 ≤ a.start ∧ a.start < a.n ∧ a.next.length = a.n ∧ ∀ s, s < a.n → (a.next[s]?.getD []).length = 9 ∧ ∀ k, k < 9 → -1 ≤ a.nx s k ∧ a.nx s k < a.n

def AutV (w : World) (p : Nat → Prop) (v : Value) (a : Aut) : Prop :=
  ∃ A1 n1 c1 A2 n2 c2, v = .agg #[.int .i64 a.start, .slice A1 n1 c1, .slice A2 n2 c2] ∧ Sl w p 1 A1 n1 (bools a.acc) ∧ Sls w p A2 n2 a.next

theorem AutV.fit {w : World} {p : Nat → Prop} {v : Value} {a : Aut} (h : AutV w p v a) (hf : a.Fits) :
    ∃ A1 c1 A2 c2, v = .agg #[.int .i64 a.start, .slice A1 a.n c1, .slice A2 a.n c2] ∧ Sl w p 1 A1 a.n (bools a.acc) ∧ Sls w p A2 a.n a.next := by
  obtain ⟨A1, n1, c1, A2, n2, c2, rfl, h1, h2⟩ := h
  obtain rfl : a.n = n1 := h1.lenb
  obtain rfl : a.n = n2 := by rw [← h2.len]; exact hf.2.2.1.symm
  exact ⟨A1, c1, A2, c2, rfl, h1, h2⟩

theorem Sls.nx_at {w : World} {p : Nat → Prop} {A : Option Addr} {a : Aut} (h : Sls w p A a.n a.next) (hf : a.Fits) {s k : Nat} (hs : s < a.n) (hk : k < 9) :
    ∃ b off b' off' c', A = some ⟨b, off, none⟩ ∧ w.cell? ⟨b, off + s, none⟩ = some (.slice (some ⟨b', off', none⟩) 9 c') ∧ w.cell? ⟨b', off' + k, none⟩ = some (.int .i64 (a.nx s k)) ∧ -1 ≤ a.nx s k ∧ a.nx s k < a.n := by
  obtain ⟨bN, oN, A', m, c', rfl, hp1, hq1, hcN, hm, hrow⟩ := h.row_at hs
  obtain rfl : 9 = m := by rw [hm]; exact (hf.2.2.2 s hs).1.symm
  obtain ⟨bR, oR, rfl, hp2, hq2, hcR⟩ := hrow.int_at hk
  exact ⟨bN, oN, bR, oR, c', rfl, hcN, hcR, (hf.2.2.2 s hs).2 k hk⟩

theorem elInt : El Tryz.prog 24 3 (.int .i64 0) 1 8 := ⟨Tryz.underlying24, by kernel_rfl, rfl, by decide⟩
theorem elBool : El Tryz.prog 28 4 (.bool false) 1 1 := ⟨Tryz.underlying28, by kernel_rfl, rfl, by decide⟩


def inB (x a b : Int) : Bool := decide (a ≤ x) && decide (x ≤ b)
def isL (n : Int) : Bool := inB n 0 8
theorem inB_yes {x a b : Int} (h1 : a ≤ x) (h2 : x ≤ b) : inB x a b = true := by simp [inB, h1, h2]
theorem inB_iff {x a b : Int} : inB x a b = true ↔ a ≤ x ∧ x ≤ b := by simp [inB]
theorem inB_no {x a b : Int} : inB x a b = false ↔ ¬ (a ≤ x ∧ x ≤ b) := by rw [← inB_iff]; simp
theorem isL_iff {x : Int} : isL x = true ↔ 0 ≤ x ∧ x ≤ 8 := inB_iff
theorem isL_no {x : Int} : isL x = false ↔ ¬ (0 ≤ x ∧ x ≤ 8) := inB_no

theorem AutV.keep {w w' : World} {p : Nat → Prop} {v : Value} {a : Aut} (h : AutV w p v a) (hw : w.heap.size ≤ w'.heap.size) (hk : ∀ b, p b → b < w.heap.size → w'.heap[b]? = w.heap[b]?) : AutV w' p v a := by
  obtain ⟨A1, n1, c1, A2, n2, c2, rfl, h1, h2⟩ := h
  exact ⟨A1, n1, c1, A2, n2, c2, rfl, h1.keep hw hk, h2.keep hw hk⟩
theorem AutV.weak {w : World} {p q : Nat → Prop} {v : Value} {a : Aut} (h : AutV w p v a) (hq : ∀ b, p b → b < w.heap.size → q b) : AutV w q v a := by
  obtain ⟨A1, n1, c1, A2, n2, c2, rfl, h1, h2⟩ := h
  exact ⟨A1, n1, c1, A2, n2, c2, rfl, h1.weak hq, h2.weak hq⟩
theorem AutV.below {w w' : World} {p : Nat → Prop} {v : Value} {a : Aut} (h : AutV w p v a) (hb : Below w.heap.size w w') : AutV w' p v a :=
  h.keep hb.size fun b _ hlt => hb.block b hlt
theorem AutV.alloc {w : World} {p : Nat → Prop} {v : Value} {a : Aut} (h : AutV w p v a) (o : Obj) : AutV (w.alloc o) p v a := h.keep (by simp) (fun b _ hb => Below.heap_alloc w _ b hb)
theorem AutV.drew {w : World} {p : Nat → Prop} {v : Value} {a : Aut} (h : AutV w p v a) : AutV w.drew p v a := h
theorem Sl.drew {w : World} {p : Nat → Prop} {size n : Nat} {A : Option Addr} {xs : List Value} (h : Sl w p size A n xs) : Sl w.drew p size A n xs := h
theorem Sls.drew {w : World} {p : Nat → Prop} {n : Nat} {A : Option Addr} {rows : List (List Int)} (h : Sls w p A n rows) : Sls w.drew p A n rows := h
theorem AutV.old {w w' : World} {p : Nat → Prop} {v : Value} {a : Aut} (h : AutV w p v a) (hb : Below w.heap.size w w') : AutV w' (· < w.heap.size) v a :=
  (h.weak (fun _ _ h => h)).keep hb.size fun b _ hlt => hb.block b hlt

/-- the automaton's struct in a block of its own -/
theorem Sl.alloc {w : World} {p : Nat → Prop} {size n : Nat} {A : Option Addr} {xs : List Value} (h : Sl w p size A n xs) (o : Obj) : Sl (w.alloc o) p size A n xs :=
  h.keep (by simp) fun b _ hb => Below.heap_alloc w o b hb
theorem Sls.alloc {w : World} {p : Nat → Prop} {n : Nat} {A : Option Addr} {rows : List (List Int)} (h : Sls w p A n rows) (o : Obj) : Sls (w.alloc o) p A n rows :=
  h.keep (by simp) fun b _ hb => Below.heap_alloc w o b hb

def Aut.RowOk (a : Aut) (s : Nat) : Prop := (a.next[s]?.getD []).length = 9 ∧ ∀ k, k < 9 → -1 ≤ a.nx s k ∧ a.nx s k < a.n
def RowsOk (a : Aut) (k : Nat) : Prop := ∀ s, s < k → a.RowOk s
def NxOk (a : Aut) (s k : Nat) : Prop := ∀ j, j < k → -1 ≤ a.nx s j ∧ a.nx s j < a.n
theorem RowsOk.zero (a : Aut) : RowsOk a 0 := fun _ h => absurd h (by omega)
theorem NxOk.zero (a : Aut) (s : Nat) : NxOk a s 0 := fun _ h => absurd h (by omega)
theorem RowsOk.succ {a : Aut} {k : Nat} (h : RowsOk a k) (hk : a.RowOk k) : RowsOk a (k + 1) := fun s hs => by
  rcases Nat.lt_succ_iff_lt_or_eq.1 hs with h1 | rfl
  · exact h s h1
  · exact hk
theorem NxOk.succ {a : Aut} {s k : Nat} (h : NxOk a s k) (hk : -1 ≤ a.nx s k ∧ a.nx s k < a.n) : NxOk a s (k + 1) := fun j hj => by
  rcases Nat.lt_succ_iff_lt_or_eq.1 hj with h1 | rfl
  · exact h j h1
  · exact hk
noncomputable def fitsB (a : Aut) : Bool := @decide a.Fits (Classical.propDecidable _)
theorem fitsB_iff {a : Aut} : fitsB a = true ↔ a.Fits := by unfold fitsB; exact @decide_eq_true_iff _ (Classical.propDecidable _)
theorem fitsB_no {a : Aut} : fitsB a = false ↔ ¬ a.Fits := by rw [← fitsB_iff]; simp
noncomputable def validB (a : Aut) : Bool := decide (a.n ≤ 12) && fitsB a
theorem validB_iff {a : Aut} : validB a = true ↔ a.n ≤ 12 ∧ a.Fits := by simp [validB, fitsB_iff]
theorem validB_no {a : Aut} : validB a = false ↔ ¬ (a.n ≤ 12 ∧ a.Fits) := by rw [← validB_iff]; simp
theorem Aut.Fits.pos {a : Aut} (h : a.Fits) : 0 < a.n := by have h1 := h.1; have h2 := h.2.1; omega
theorem Sls.nx_at2 {w : World} {p : Nat → Prop} {A : Option Addr} {n : Nat} {a : Aut} (h : Sls w p A n a.next) {s : Nat} (hs : s < n) :
    ∃ b off A' m c', A = some ⟨b, off, none⟩ ∧ w.cell? ⟨b, off + s, none⟩ = some (.slice A' m c') ∧ m = (a.next[s]?.getD []).length ∧ m ≤ 9223372036854775807 ∧
      ∀ k, k < m → ∃ b' off', A' = some ⟨b', off', none⟩ ∧ w.cell? ⟨b', off' + k, none⟩ = some (.int .i64 (a.nx s k)) := by
  obtain ⟨bN, oN, A', m, c', rfl, hp1, hq1, hcN, hm, hrow⟩ := h.row_at hs
  refine ⟨bN, oN, A', m, c', rfl, hcN, hm, by have := hrow.2.1; unfold maxLen at this; omega, fun k hk => ?_⟩
  obtain ⟨bR, oR, rfl, _, _, hcR⟩ := hrow.int_at hk
  exact ⟨bR, oR, rfl, hcR⟩
/-- the row of state s, once for all its letters; where the blocks lie -/
theorem Sls.row9 {w : World} {p : Nat → Prop} {A : Option Addr} {n : Nat} {a : Aut} (h : Sls w p A n a.next) (hf : a.Fits) {s : Nat} (hs : s < n) (hs2 : s < a.n) :
    ∃ b off b' off' c', A = some ⟨b, off, none⟩ ∧ p b ∧ b < w.heap.size ∧ p b' ∧ b' < w.heap.size ∧ w.cell? ⟨b, off + s, none⟩ = some (.slice (some ⟨b', off', none⟩) 9 c') ∧
      ∀ k, k < 9 → w.cell? ⟨b', off' + k, none⟩ = some (.int .i64 (a.nx s k)) := by
  obtain ⟨bN, oN, A', m, c', rfl, hp1, hq1, hcN, hm, hrow⟩ := h.row_at hs
  obtain rfl : 9 = m := by rw [hm]; exact (hf.2.2.2 s hs2).1.symm
  obtain ⟨bR, oR, rfl, hp2, hq2, _⟩ := hrow.int_at (k := 0) (by omega)
  refine ⟨bN, oN, bR, oR, c', rfl, hp1, hq1, hp2, hq2, hcN, fun k hk => ?_⟩
  obtain ⟨b2, o2, he, _, _, hc⟩ := hrow.int_at hk
  injection he with he
  injection he with he1 he2 _
  subst he1 he2
  exact hc

end Go.Proofs.YtmnhpbbapkcdjaaGreat

/- Walks: small tests, and one step of an automaton. -/
namespace Go.Proofs.YtmnhpbbapkcdjaaGreat
open Go.RowKit

theorem within_any (x a b : Int) (w : World) :
    Calls Tryz.prog 56 #[.int .i64 x, .int .i64 a, .int .i64 b] w fun e w' => e = .returned (.bool (inB x a b)) ∧ w = w' := by
  go_enter Tryz.func56, Tryz.ntmps56
  go_wp2
  all_goals (go_ret; refine ⟨?_, rfl⟩; simp [inB, *]; try omega)

theorem l1In_any (x a b : Int) (w : World) :
    Calls Tryz.prog 62 #[.int .i64 x, .int .i64 a, .int .i64 b] w fun e w' => e = .returned (.bool (inB x a b)) ∧ w = w' := by
  go_enter Tryz.func62, Tryz.ntmps62
  go_wp2
  all_goals (go_ret; refine ⟨?_, rfl⟩; simp [inB, *]; try omega)

theorem isLetter_any (x : Int) (w : World) :
    Calls Tryz.prog 57 #[.int .i64 x] w fun e w' => e = .returned (.bool (isL x)) ∧ w = w' := by
  go_enter Tryz.func57, Tryz.ntmps57
  go_wp2_with (go_at_call 56; refine (within_any _ _ _ _).mono ?_; rintro e w' ⟨rfl, rfl⟩)
  go_ret; exact ⟨rfl, rfl⟩

theorem l2Letter_any (x : Int) (w : World) :
    Calls Tryz.prog 34 #[.int .i64 x] w fun e w' => e = .returned (.bool (isL x)) ∧ w = w' := by
  go_enter Tryz.func34, Tryz.ntmps34
  go_wp2_with (go_at_call 62; refine (l1In_any _ _ _ _).mono ?_; rintro e w' ⟨rfl, rfl⟩)
  go_ret; exact ⟨rfl, rfl⟩

def acB (a : Aut) (s : Int) : Bool := decide (0 ≤ s) && a.acc[s.toNat]?.getD false
def mvI (a : Aut) (s k : Int) : Int := if 0 ≤ s ∧ isL k = true then a.nx s.toNat k.toNat else -1

theorem Sl.bool_atI {w : World} {p : Nat → Prop} {n : Nat} {A : Option Addr} {zs : List Bool} {k : Int} (h : Sl w p 1 A n (bools zs)) (h0 : 0 ≤ k) (hk : k < n) :
    ∃ b off, A = some ⟨b, off, none⟩ ∧ w.cell? ⟨b, off + k.toNat, none⟩ = some (.bool (zs[k.toNat]?.getD false)) := by
  obtain ⟨b, off, rfl, _, _, hc⟩ := h.bool_at (k := k.toNat) (by omega)
  exact ⟨b, off, rfl, hc⟩

theorem accepts_any (a : Aut) (v : Value) (s : Int) (w : World) (p : Nat → Prop) (h : AutV w p v a) (hs : s < a.n) :
    Calls Tryz.prog 35 #[v, .int .i64 s] w fun e w' => e = .returned (.bool (acB a s)) ∧ Below w.heap.size w w' := by
  obtain ⟨A1, n1, c1, A2, n2, c2, rfl, h1, h2⟩ := h
  obtain rfl : a.n = n1 := h1.lenb
  by_cases h0 : 0 ≤ s
  · obtain ⟨b, off, rfl, hc⟩ := (h1.alloc (.cells #[.int .i64 a.start, .slice A1 a.n c1, .slice A2 n2 c2] 31)).bool_atI h0 hs
    go_enter Tryz.func35, Tryz.ntmps35
    go_wp2
    go_ret; exact ⟨by simp [acB, h0], below_alloc _ _⟩
  · have hd : decide (0 ≤ s) = false := by simpa using h0
    go_enter Tryz.func35, Tryz.ntmps35
    go_wp2
    go_ret; exact ⟨by simp [acB, hd], below_alloc _ _⟩
theorem l12Accept_any (a : Aut) (v : Value) (s : Int) (w : World) (p : Nat → Prop) (h : AutV w p v a) (hs : s < a.n) :
    Calls Tryz.prog 105 #[v, .int .i64 s] w fun e w' => e = .returned (.bool (acB a s)) ∧ Below w.heap.size w w' := by
  obtain ⟨A1, n1, c1, A2, n2, c2, rfl, h1, h2⟩ := h
  obtain rfl : a.n = n1 := h1.lenb
  by_cases h0 : 0 ≤ s
  · obtain ⟨b, off, rfl, hc⟩ := (h1.alloc (.cells #[.int .i64 a.start, .slice A1 a.n c1, .slice A2 n2 c2] 31)).bool_atI h0 hs
    go_enter Tryz.func105, Tryz.ntmps105
    go_wp2
    go_ret; exact ⟨by simp [acB, h0], below_alloc _ _⟩
  · have hd : decide (0 ≤ s) = false := by simpa using h0
    go_enter Tryz.func105, Tryz.ntmps105
    go_wp2
    go_ret; exact ⟨by simp [acB, hd], below_alloc _ _⟩

theorem Sls.nx_atI {w : World} {p : Nat → Prop} {A : Option Addr} {a : Aut} (h : Sls w p A a.n a.next) (hf : a.Fits) {s k : Int} (h0 : 0 ≤ s) (hs : s < a.n) (k0 : 0 ≤ k) (hk : k < 9) :
    ∃ b off b' off' c', A = some ⟨b, off, none⟩ ∧ w.cell? ⟨b, off + s.toNat, none⟩ = some (.slice (some ⟨b', off', none⟩) 9 c') ∧ w.cell? ⟨b', off' + k.toNat, none⟩ = some (.int .i64 (a.nx s.toNat k.toNat)) ∧ -1 ≤ a.nx s.toNat k.toNat ∧ a.nx s.toNat k.toNat < a.n :=
  h.nx_at hf (by omega) (by omega)

theorem move_any (a : Aut) (v : Value) (s k : Int) (w : World) (p : Nat → Prop) (h : AutV w p v a) (hf : a.Fits) (hs : s < a.n) :
    Calls Tryz.prog 44 #[v, .int .i64 s, .int .i64 k] w fun e w' => e = .returned (.int .i64 (mvI a s k)) ∧ Below w.heap.size w w' := by
  obtain ⟨A1, c1, A2, c2, rfl, h1, h2⟩ := h.fit hf
  by_cases h0 : s < 0
  · have hd : decide (s < 0) = true := by simpa using h0
    have hr : mvI a s k = -1 := by unfold mvI; rw [if_neg (by omega)]
    have Hr := Lib.hid hr; clear hr
    go_enter Tryz.func44, Tryz.ntmps44
    go_wp2
    go_ret; exact ⟨by rw [Hr.out]; rfl, below_alloc _ _⟩
  · have hd : decide (s < 0) = false := by simpa using h0
    cases hk : isL k with
    | false =>
      have hr : mvI a s k = -1 := by unfold mvI; rw [if_neg (by simp [hk])]
      have Hr := Lib.hid hr; clear hr
      go_enter Tryz.func44, Tryz.ntmps44
      go_wp2_with (go_at_call 57; refine (isLetter_any _ _).mono ?_; rintro e w' ⟨rfl, rfl⟩)
      go_ret; exact ⟨by rw [Hr.out]; rfl, below_alloc _ _⟩
    | true =>
      have hr : mvI a s k = a.nx s.toNat k.toNat := by unfold mvI; rw [if_pos ⟨by omega, hk⟩]
      obtain ⟨k0, k8⟩ := isL_iff.1 hk
      obtain ⟨bN, oN, bR, oR, cR, rfl, hcN, hcR, hx1, hx2⟩ := (h2.alloc (.cells #[.int .i64 a.start, .slice A1 a.n c1, .slice A2 a.n c2] 31)).nx_atI hf (by omega) hs k0 (by omega)
      have Hr := Lib.hid hr; clear hr hf
      go_enter Tryz.func44, Tryz.ntmps44
      go_wp2_with (go_at_call 57; refine (isLetter_any _ _).mono ?_; rintro e w' ⟨rfl, rfl⟩)
      go_ret; exact ⟨by rw [Hr.out]; rfl, below_alloc _ _⟩

def nxI (a : Aut) (s : Int) (k : Nat) : Int := if s < 0 then -1 else a.nx s.toNat k
theorem l12Next_any (a : Aut) (v : Value) (s : Int) (k : Nat) (w : World) (p : Nat → Prop) (h : AutV w p v a) (hf : a.Fits) (hs : s < a.n) (hk : k < 9) :
    Calls Tryz.prog 107 #[v, .int .i64 s, .int .i64 k] w fun e w' => e = .returned (.int .i64 (nxI a s k)) ∧ Below w.heap.size w w' := by
  obtain ⟨A1, c1, A2, c2, rfl, h1, h2⟩ := h.fit hf
  by_cases h0 : s < 0
  · have hd : decide (s < 0) = true := by simpa using h0
    have hr : nxI a s k = -1 := by unfold nxI; rw [if_pos h0]
    have Hr := Lib.hid hr; clear hr
    go_enter Tryz.func107, Tryz.ntmps107
    go_wp2
    go_ret; exact ⟨by rw [Hr.out]; rfl, below_alloc _ _⟩
  · have hd : decide (s < 0) = false := by simpa using h0
    have hr : nxI a s k = a.nx s.toNat k := by unfold nxI; rw [if_neg h0]
    obtain ⟨bN, oN, bR, oR, cR, rfl, hcN, hcR, hx1, hx2⟩ := (h2.alloc (.cells #[.int .i64 a.start, .slice A1 a.n c1, .slice A2 a.n c2] 31)).nx_at hf (s := s.toNat) (by omega) hk
    have Hr := Lib.hid hr; clear hr hf
    go_enter Tryz.func107, Tryz.ntmps107
    go_wp2
    go_ret; exact ⟨by rw [Hr.out]; rfl, below_alloc _ _⟩
end Go.Proofs.YtmnhpbbapkcdjaaGreat
