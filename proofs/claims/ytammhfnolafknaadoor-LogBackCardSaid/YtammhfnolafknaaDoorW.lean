/- Words for walks: memory that is kept but for a set of blocks, rows that are owned, slices that read as lists. Plain theorems over any program. -/
import Derived.WalkKit
import Derived.WalkSpells
import Derived.WalkLawsBesides
import Derived.Deep.AppendLies
import Derived.Deep.Draws
import Derived.Maps.AppendAt
import Derived.Lib.Hide
import Derived.Lib.ConvBytes
import Derived.Deep.QuietTactic
import Derived.BigQuiet
import Derived.Deep.LoopGhost
import Derived.Deep.DeepCutAuto
import Derived.ScopeJumps
import Derived.WalkMore
import Derived.Lib.SlBytesConst
set_option linter.unusedVariables false
set_option linter.unusedSimpArgs false
namespace Go.Proofs.YtammhfnolafknaaDoor
open Go.RowKit

/-! ### The world is kept but for a set of blocks -/
structure Kept (w w' : World) (S : Nat → Prop) : Prop where
  os : w'.os = w.os
  tape : w'.tape = w.tape
  output : w'.output = w.output
  size : w.heap.size ≤ w'.heap.size
  block : ∀ k, k < w.heap.size → ¬ S k → w'.heap[k]? = w.heap[k]?

/-- No block at all. -/
def NoB : Nat → Prop := fun _ => False

section
variable {a w w' : World} {S T : Nat → Prop}
theorem Kept.refl (w : World) (S : Nat → Prop) : Kept w w S := ⟨rfl, rfl, rfl, Nat.le_refl _, fun _ _ _ => rfl⟩
theorem Kept.trans (h : Kept a w S) (k : Kept w w' T) (hT : ∀ b, T b → S b ∨ a.heap.size ≤ b) : Kept a w' S :=
  ⟨k.os.trans h.os, k.tape.trans h.tape, k.output.trans h.output, Nat.le_trans h.size k.size, fun i hi hn =>
    (k.block i (Nat.lt_of_lt_of_le hi h.size) (fun ht => by exact (hT i ht).elim hn (fun h1 => by omega))).trans (h.block i hi hn)⟩
theorem Kept.trans' (h : Kept a w S) (k : Kept w w' NoB) : Kept a w' S := h.trans k fun _ hb => hb.elim
theorem Kept.mono (h : Kept a w S) (hS : ∀ b, S b → T b) : Kept a w T := ⟨h.os, h.tape, h.output, h.size, fun i hi hn => h.block i hi fun hs => hn (hS i hs)⟩
theorem Kept.of_no (h : Kept a w NoB) : Kept a w S := h.mono fun _ hb => hb.elim
theorem Kept.drew (h : Kept a w S) : Kept a w.drew S := ⟨h.os, h.tape, h.output, h.size, h.block⟩
theorem Kept.drewN (h : Kept a w S) (n : Nat) : Kept a (w.drewN n) S := ⟨h.os, h.tape, h.output, h.size, h.block⟩
theorem Kept.alloc (h : Kept a w S) (o : Obj) : Kept a (w.alloc o) S :=
  ⟨h.os, h.tape, h.output, Nat.le_trans h.size (by simp), fun i hi hn => (Below.heap_alloc w o i (Nat.lt_of_lt_of_le hi h.size)).trans (h.block i hi hn)⟩
theorem Kept.setCell (h : Kept a w S) {p : Addr} (hp : S p.block ∨ a.heap.size ≤ p.block) (u : Value) : Kept a (w.setCell p u) S :=
  ⟨h.os, h.tape, h.output, by simpa [World.setCell] using h.size, fun i hi hn => (Below.heap_setCell w p u i (by
    rintro rfl
    rcases hp with hp | hp
    · exact hn hp
    · omega)).trans (h.block i hi hn)⟩
theorem Kept.grown (h : Kept a w S) {row : Option Nat} (hg : w.grownBy w' row) (hr : ∀ k, row = some k → S k ∨ a.heap.size ≤ k) : Kept a w' S :=
  ⟨hg.os.trans h.os, hg.tape.trans h.tape, hg.output.trans h.output, Nat.le_trans h.size hg.size, fun i hi hn =>
    (hg.block i (Nat.lt_of_lt_of_le hi h.size) (fun e => by exact (hr i e.symm).elim hn (fun h1 => by omega))).trans (h.block i hi hn)⟩
theorem Kept.below (h : Kept a w NoB) : Below a.heap.size a w := ⟨h.os, h.tape, h.output, h.size, fun i hi => h.block i hi fun x => x⟩
theorem Kept.of_below (h : Below a.heap.size a w) : Kept a w NoB := ⟨h.os, h.tape, h.output, h.size, fun i hi _ => h.block i hi⟩
theorem Kept.grownBy (h : Kept w w' NoB) (row : Option Nat) : w.grownBy w' row := ⟨h.os, h.tape, h.output, h.size, fun i hi _ => h.block i hi fun x => x⟩
theorem Kept.heap (h : Kept w w' S) {k : Nat} {o : Obj} (hk : w.heap[k]? = some o) (hn : ¬ S k) : w'.heap[k]? = some o := by
  have : k < w.heap.size := (Array.getElem?_eq_some_iff.1 hk).1
  rw [h.block k this hn, hk]
theorem Kept.cell (h : Kept w w' S) {p : Addr} {v : Value} (hc : w.cell? p = some v) (hn : ¬ S p.block) : w'.cell? p = some v :=
  (World.cell?_of_block (h.block p.block (World.block_lt_of_cell? w p hc) hn)).trans hc
end

/-! ### A block known whole -/
def Blk (w : World) (g : Nat) (t : TypeId) (cs : Array Value) : Prop := w.heap[g]? = some (.cells cs t (0, 0))
section
variable {w w' : World} {g : Nat} {t : TypeId} {cs : Array Value} {S : Nat → Prop}
theorem Blk.lt (h : Blk w g t cs) : g < w.heap.size := (Array.getElem?_eq_some_iff.1 h).1
theorem Blk.cell (h : Blk w g t cs) (i : Nat) : w.cell? ⟨g, i, none⟩ = cs[i]? := cell_of_row w g i cs t (0, 0) h
theorem Blk.frozen (h : Blk w g t cs) (i : Nat) : w.frozen? ⟨g, i, none⟩ = false := by
  unfold Blk at h
  simp [World.frozen?, h]
theorem Blk.new (w : World) (t : TypeId) (cs : Array Value) : Blk (w.alloc (.cells cs t)) w.heap.size t cs := heap_alloc_new w _
theorem Blk.drew (h : Blk w g t cs) : Blk w.drew g t cs := h
theorem Blk.drewN (h : Blk w g t cs) (n : Nat) : Blk (w.drewN n) g t cs := h
theorem Blk.alloc (h : Blk w g t cs) (o : Obj) : Blk (w.alloc o) g t cs := (Below.heap_alloc w o g h.lt).trans h
theorem Blk.set_ (h : Blk w g t cs) (i : Nat) (u : Value) : Blk (w.setCell ⟨g, i, none⟩ u) g t (cs.setIfInBounds i u) := by
  unfold Blk at h ⊢
  simp [World.setCell, Array.getElem?_modify, h]
theorem Blk.far (h : Blk w g t cs) {p : Addr} (hp : g ≠ p.block) (u : Value) : Blk (w.setCell p u) g t cs := (Below.heap_setCell w p u g hp).trans h
theorem Blk.kept (h : Blk w g t cs) (k : Kept w w' S) (hn : ¬ S g) : Blk w' g t cs := k.heap h hn
theorem Blk.kept0 (h : Blk w g t cs) (k : Kept w w' NoB) : Blk w' g t cs := k.heap h fun x => x
theorem Blk.grown {row : Option Nat} (h : Blk w g t cs) (hb : w.grownBy w' row) (hg : some g ≠ row) : Blk w' g t cs := (hb.block g h.lt hg).trans h
theorem Blk.ne_ {g' : Nat} {t' : TypeId} {cs' : Array Value} (h : Blk w g t cs) (h' : Blk w g' t' cs') (hne : t ≠ t') : g ≠ g' := by
  rintro rfl
  unfold Blk at h h'
  rw [h] at h'
  injection h' with h'
  injection h' with _ ht
  exact hne ht
end

/-! ### A row of the call's own -/
def OB (v : Value) : Nat → Prop := fun k => v.ownBlock = some k
/-- The slice value v has the cells xs (elements of one cell, of type e), in a block of S, or is nil. -/
def Row (w : World) (e : TypeId) (S : Nat → Prop) (v : Value) (xs : List Value) : Prop :=
  w.ownsRow 0 e 1 v xs.length xs ∧ ∀ k, v.ownBlock = some k → S k
section
variable {w w' : World} {e : TypeId} {S T : Nat → Prop} {v : Value} {xs : List Value}
theorem Row.nil (w : World) (e : TypeId) (S : Nat → Prop) : Row w e S (.slice none 0 0) [] := ⟨World.ownsRow_nil _ _ _ _, fun k hk => by simp [Value.ownBlock] at hk⟩
theorem Row.mono (h : Row w e S v xs) (hS : ∀ k, k < w.heap.size → S k → T k) : Row w e T v xs := ⟨h.1, fun k hk => hS k (h.1.lt k hk).2 (h.2 k hk)⟩
theorem Row.lt (h : Row w e S v xs) {k : Nat} (hk : v.ownBlock = some k) : k < w.heap.size := (h.1.lt k hk).2
theorem Row.kept (h : Row w e S v xs) (k : Kept w w' T) (hn : ∀ b, b < w.heap.size → S b → ¬ T b) : Row w' e S v xs := by
  refine ⟨⟨h.1.1, ?_⟩, h.2⟩
  rcases h.1.2 with h2 | ⟨g, cap, cur, rfl, hb, hh, r⟩
  · exact .inl h2
  · refine .inr ⟨g, cap, cur, rfl, hb, ?_, r⟩
    have hg : S g := h.2 g (by simp [Value.ownBlock])
    exact k.heap hh (hn g (Array.getElem?_eq_some_iff.1 hh).1 hg)
theorem Row.kept0 (h : Row w e S v xs) (k : Kept w w' NoB) : Row w' e S v xs := h.kept k fun _ _ _ x => x
theorem Row.drew (h : Row w e S v xs) : Row w.drew e S v xs := h
theorem Row.drewN (h : Row w e S v xs) (n : Nat) : Row (w.drewN n) e S v xs := h
theorem Row.alloc (h : Row w e S v xs) (o : Obj) : Row (w.alloc o) e S v xs := ⟨h.1.alloc o, h.2⟩
theorem Row.ne_blk {g : Nat} {t : TypeId} {cs : Array Value} (h : Row w e S v xs) (hg : Blk w g t cs) (hne : e ≠ t) : v.ownBlock ≠ some g := by
  rcases h.1.2 with ⟨rfl, _⟩ | ⟨g', cap, cur, rfl, _, hh, _⟩
  · simp [Value.ownBlock]
  · intro he
    have : g' = g := by simpa [Value.ownBlock] using he
    subst this
    exact Blk.ne_ (t := e) hh hg hne rfl
theorem Row.far (h : Row w e S v xs) {p : Addr} (hp : v.ownBlock ≠ some p.block) (u : Value) : Row (w.setCell p u) e S v xs := by
  refine ⟨⟨h.1.1, ?_⟩, h.2⟩
  rcases h.1.2 with h2 | ⟨g, cap, cur, rfl, hb, hh, r⟩
  · exact .inl h2
  · refine .inr ⟨g, cap, cur, rfl, hb, ?_, r⟩
    have hg : g ≠ p.block := fun e => hp (by simp [Value.ownBlock, e])
    exact (Below.heap_setCell w p u g hg).trans hh
theorem Row.kept_ (h : Row w e S v xs) (k : Kept w w' T) (hn : ∀ b, OB v b → ¬ T b) : Row w' e S v xs := by
  refine ⟨⟨h.1.1, ?_⟩, h.2⟩
  rcases h.1.2 with h2 | ⟨g, cap, cur, rfl, hb, hh, r⟩
  · exact .inl h2
  · exact .inr ⟨g, cap, cur, rfl, hb, k.heap hh (hn g (by simp [OB, Value.ownBlock])), r⟩
theorem Row.apart {e' : TypeId} {v' : Value} {xs' : List Value} (h : Row w e S v xs) (h' : Row w e' T v' xs') (hne : e ≠ e') : ∀ k, OB v k → ¬ OB v' k := by
  intro k hk hk'
  rcases h'.1.2 with ⟨rfl, _⟩ | ⟨g', cap', cur', rfl, _, hh', _⟩
  · simp [OB, Value.ownBlock] at hk'
  · have hg : g' = k := by simpa [OB, Value.ownBlock] using hk'
    subst hg
    exact h.ne_blk (g := g') (t := e') hh' hne hk
theorem Row.shape (h : Row w e S v xs) : ∃ A c, v = .slice A xs.length c ∧ xs.length ≤ c ∧ c ≤ maxLen := by
  rcases h.1.2 with ⟨rfl, hn⟩ | ⟨g, cap, cur, rfl, _, _, h1, h2, _⟩
  · exact ⟨none, 0, by rw [hn], by omega, by omega⟩
  · exact ⟨_, cap, rfl, h1, h2⟩
end

/-! ### A slice that reads as a list (elements of one cell) -/
/-- The slice value '.slice A n c' holds the cells xs, in a block of S (no block is asked where it is empty). -/
def Reads (w : World) (S : Nat → Prop) (A : Option Addr) (n : Nat) (xs : List Value) : Prop :=
  xs.length = n ∧ (0 < n → ∃ ad, A = some ad ∧ S ad.block ∧ ad.block < w.heap.size ∧ ∀ j u, xs[j]? = some u → w.cell? (ad.add j) = some u)
theorem block_add (a : Addr) (n : Nat) : (a.add n).block = a.block := by unfold Addr.add; split <;> rfl
theorem add_add (a : Addr) (i j : Nat) : (a.add i).add j = a.add (i + j) := by
  unfold Addr.add
  by_cases hi : i = 0 <;> by_cases hj : j = 0 <;> simp [hi, hj, Nat.add_assoc]
theorem add_zero_ (a : Addr) : a.add 0 = a := by simp [Addr.add]
theorem add_succ_ (a : Addr) (j : Nat) : a.add (j + 1) = ⟨a.block, a.off + (j + 1), none⟩ := by simp [Addr.add]
theorem add_lit0 (g j : Nat) : (⟨g, 0, none⟩ : Addr).add j = ⟨g, j, none⟩ := by unfold Addr.add; split <;> simp_all
section
variable {w w' : World} {S T : Nat → Prop} {A : Option Addr} {n : Nat} {xs : List Value}
theorem Reads.nil (w : World) (S : Nat → Prop) (A : Option Addr) : Reads w S A 0 [] := ⟨rfl, fun h => absurd h (by omega)⟩
theorem Reads.mono (h : Reads w S A n xs) (hS : ∀ k, k < w.heap.size → S k → T k) : Reads w T A n xs :=
  ⟨h.1, fun hn => by obtain ⟨ad, e, hs, hl, hc⟩ := h.2 hn; exact ⟨ad, e, hS _ hl hs, hl, hc⟩⟩
theorem Reads.kept (h : Reads w S A n xs) (k : Kept w w' T) (hn : ∀ b, b < w.heap.size → S b → ¬ T b) : Reads w' S A n xs :=
  ⟨h.1, fun hp => by
    obtain ⟨ad, e, hs, hl, hc⟩ := h.2 hp
    exact ⟨ad, e, hs, Nat.lt_of_lt_of_le hl k.size, fun j u hu => k.cell (hc j u hu) (by rw [block_add]; exact hn _ hl hs)⟩⟩
theorem Reads.kept0 (h : Reads w S A n xs) (k : Kept w w' NoB) : Reads w' S A n xs := h.kept k fun _ _ _ x => x
theorem Reads.drew (h : Reads w S A n xs) : Reads w.drew S A n xs := h
theorem Reads.drewN (h : Reads w S A n xs) (m : Nat) : Reads (w.drewN m) S A n xs := h
theorem Reads.alloc (h : Reads w S A n xs) (o : Obj) : Reads (w.alloc o) S A n xs := h.kept0 ((Kept.refl w NoB).alloc o)
theorem Reads.at_ {k : Nat} (h : Reads w S A n xs) (hk : k < n) : ∃ ad u, A = some ad ∧ xs[k]? = some u ∧ w.cell? (ad.add k) = some u := by
  obtain ⟨ad, e, _, _, hc⟩ := h.2 (by omega)
  have hl : k < xs.length := by have := h.1; omega
  exact ⟨ad, xs[k], e, List.getElem?_eq_getElem hl, hc k _ (List.getElem?_eq_getElem hl)⟩
theorem Reads.take (h : Reads w S A n xs) {k : Nat} (hk : k ≤ n) : Reads w S A k (xs.take k) :=
  ⟨by rw [List.length_take, h.1]; omega, fun hp => by
    obtain ⟨ad, e, hs, hl, hc⟩ := h.2 (by omega)
    exact ⟨ad, e, hs, hl, fun j u hu => hc j u (by rw [List.getElem?_take] at hu; split at hu <;> first | exact hu | cases hu)⟩⟩
theorem Reads.drop (h : Reads w S A n xs) {k cap : Nat} (hk : k ≤ n) (hc : n ≤ cap) : Reads w S (if cap = k then A else A.map (·.add k)) (n - k) (xs.drop k) := by
  refine ⟨by rw [List.length_drop, h.1], fun hn => ?_⟩
  obtain ⟨ad, rfl, hs, hl, hcell⟩ := h.2 (by omega)
  rw [if_neg (by omega)]
  refine ⟨ad.add k, rfl, by rw [block_add]; exact hs, by rw [block_add]; exact hl, fun j u hu => ?_⟩
  rw [add_add]
  exact hcell _ u (by rw [← hu, List.getElem?_drop])
theorem Row.reads {e : TypeId} {v : Value} (h : Row w e S v xs) : ∃ A c, v = .slice A xs.length c ∧ xs.length ≤ c ∧ Reads w S A xs.length xs := by
  rcases Nat.eq_zero_or_pos xs.length with h0 | h0
  · obtain ⟨A, c, hv, hc, _⟩ := h.shape
    exact ⟨A, c, hv, hc, rfl, fun hp => absurd hp (by omega)⟩
  · obtain ⟨g, cap, hv, _, hlt⟩ := h.1.form h0
    obtain ⟨A, c, hv', hc, _⟩ := h.shape
    have hA : A = some ⟨g, 0, none⟩ := by rw [hv] at hv'; injection hv' with h1 _; exact h1.symm
    subst hA
    subst hv'
    exact ⟨_, c, rfl, hc, rfl, fun _ => ⟨_, rfl, h.2 g (by simp [Value.ownBlock]), hlt, h.1.cells (g := g) rfl⟩⟩
end

theorem Row.readsN {w : World} {e : TypeId} {S : Nat → Prop} {v : Value} {xs : List Value} (h : Row w e S v xs) {n : Nat} (hn : xs.length = n) : ∃ A c, v = .slice A n c ∧ n ≤ c ∧ Reads w S A n xs := by
  subst hn
  exact h.reads
theorem ob_lit {g n c j : Nat} (h : OB (.slice (some ⟨g, 0, none⟩) n c) j) : g = j := by simpa [OB, Value.ownBlock] using h
theorem Row.readsO {w : World} {e : TypeId} {S : Nat → Prop} {v : Value} {xs : List Value} (h : Row w e S v xs) {n : Nat} (hn : xs.length = n) : ∃ A c, v = .slice A n c ∧ n ≤ c ∧ Reads w (OB v) A n xs :=
  Row.readsN (S := OB v) ⟨h.1, fun _ hk => hk⟩ hn
theorem Row.slice {w : World} {e : TypeId} {S : Nat → Prop} {v : Value} {xs : List Value} (h : Row w e S v xs) : ∃ A n c, v = .slice A n c := by
  obtain ⟨A, c, hv, _⟩ := h.shape
  exact ⟨A, _, c, hv⟩
theorem Row.reads' {w : World} {e : TypeId} {S : Nat → Prop} {A : Option Addr} {n c : Nat} {xs : List Value} (h : Row w e S (.slice A n c) xs) : Reads w S A xs.length xs := by
  obtain ⟨A', c', hv, _, hr⟩ := h.reads
  injection hv with hA
  exact hA ▸ hr

/-! ### Bytes -/
/-- A byte's value; a byte as the value of a slot. -/
def B8 (b : UInt8) : Value := .int .u8 (b.toNat : Int)
def b8s (l : List UInt8) : List Value := l.map B8
theorem b8s_length (l : List UInt8) : (b8s l).length = l.length := by simp [b8s]
theorem b8s_append (l m : List UInt8) : b8s (l ++ m) = b8s l ++ b8s m := by simp [b8s]
theorem b8s_at (l : List UInt8) (k : Nat) (h : k < l.length) : (b8s l)[k]? = some (.int .u8 (l[k].toNat : Int)) := by simp [b8s, B8, List.getElem?_eq_getElem h]
theorem b8s_take (l : List UInt8) (k : Nat) : (b8s l).take k = b8s (l.take k) := by simp [b8s, List.map_take]
theorem b8s_drop (l : List UInt8) (k : Nat) : (b8s l).drop k = b8s (l.drop k) := by simp [b8s, List.map_drop]
/-- A list of bytes as a string. -/
def strB (l : List UInt8) : ByteArray := ⟨l.toArray⟩
theorem strB_data (s : ByteArray) : strB s.data.toList = s := by simp [strB]
theorem strB_toList (l : List UInt8) : (strB l).data.toList = l := by simp [strB]
@[go_sem] theorem strB_tl (l : List UInt8) : (strB l).toList = l := by rw [ByteArray.toList_eq, strB_toList]
@[go_sem] theorem strB_size (l : List UInt8) : (strB l).size = l.length := by simp [strB, ByteArray.size]
theorem strB_inj {l m : List UInt8} (h : strB l = strB m) : l = m := by rw [← strB_toList l, h, strB_toList]
def strs (ls : List (List UInt8)) : List Value := ls.map fun l => .string (strB l)
theorem strs_length (ls : List (List UInt8)) : (strs ls).length = ls.length := by simp [strs]
theorem strs_append (l m : List (List UInt8)) : strs (l ++ m) = strs l ++ strs m := by simp [strs]
/-- string(v) of a slice of bytes that is read. -/
theorem Reads.string {P : Program} {w : World} {S : Nat → Prop} {A : Option Addr} {n : Nat} {l : List UInt8} (h : Reads w S A n (b8s l)) (src e dst : TypeId) (hs : P.underlying src = some (.slice e)) (he : P.underlying e = some (.int .u8)) (hd : P.underlying dst = some .string) (c : Nat) :
    (convert src dst (.slice A n c)).run P w = .ok (.string (strB l)) w := by
  have hl : l.length = n := by have := h.1; rwa [b8s_length] at this
  rcases A with _ | ad
  · have h0 : n = 0 := by
      rcases Nat.eq_zero_or_pos n with h0 | h0
      · exact h0
      · obtain ⟨ad, h, _⟩ := h.2 h0
        cases h
    subst h0
    obtain rfl : l = [] := List.eq_nil_of_length_eq_zero hl
    exact run_convert_bytes_nil w src e hs he 0 c dst hd
  · have hload : (loadCells ad n).run P w = .ok ((l.map fun b => (b.toNat : Int)).map (Value.int .u8)).toArray w := by
      have := run_loadCells_list (P := P) w ad (b8s l) (fun j v hj => by
        have hjl : j < l.length := by
          rcases Nat.lt_or_ge j l.length with h | h
          · exact h
          · simp [b8s, List.getElem?_eq_none h] at hj
        obtain ⟨ad', h', _, _, hc⟩ := h.2 (by omega)
        injection h' with h'
        subst h'
        exact hc j v hj)
      rw [b8s_length, hl] at this
      rw [this]
      simp [b8s, B8]
    rw [run_convert_bytes_string w src dst e _ n c hs he hd, run_bytesToString w _ n c _ hload, foldl_push_bytes]
    simp only [Result.ok.injEq, Value.string.injEq, and_true]
    simp only [strB, List.map_map]
    congr 1
    have : (List.map ((fun n => UInt8.ofNat n.toNat) ∘ fun b => (b.toNat : Int)) l) = l := by
      conv => rhs; rw [← List.map_id l]
      apply List.map_congr_left
      intro b _
      simp
    rw [this]
    simp [ByteArray.empty, ByteArray.emptyWithCapacity]
    rfl

theorem Reads.lit (w : World) (e : TypeId) (xs : List Value) (C : Array Value) (hC : C = xs.toArray) (fr : Nat × Nat) : Reads (w.alloc (.cells C e fr)) (fun k => k = w.heap.size) (some ⟨w.heap.size, 0, none⟩) xs.length xs := by
  subst hC
  refine ⟨rfl, fun _ => ⟨_, rfl, rfl, by simp, fun j u hu => ?_⟩⟩
  rw [add_lit0, World.cell?_alloc_mark]
  simpa using hu
theorem Reads.bytes (w : World) (e : TypeId) (l : List UInt8) (C : Array Value) (hC : C = (b8s l).toArray) (fr : Nat × Nat) : Reads (w.alloc (.cells C e fr)) (fun k => k = w.heap.size) (some ⟨w.heap.size, 0, none⟩) l.length (b8s l) := by
  have := Reads.lit w e (b8s l) C hC fr
  rwa [b8s_length] at this

/-- []byte(s). -/
theorem Kept.bytesW {a w : World} {S : Nat → Prop} (h : Kept a w S) (e : TypeId) (s : ByteArray) : Kept a (Lib.bytesWorld w e s) S :=
  h.trans (T := NoB) ⟨rfl, rfl, rfl, by rw [Lib.bytesWorld_size]; omega, fun i hi _ => Lib.bytesWorld_at_old w e s i hi⟩ fun _ hb => hb.elim
theorem Reads.bytesW (w : World) (e : TypeId) (s : ByteArray) : Reads (Lib.bytesWorld w e s) (fun k => k = w.heap.size) (some ⟨w.heap.size, 0, none⟩) s.size (b8s s.data.toList) := by
  have hl : s.data.toList.length = s.size := by rw [Array.length_toList]; rfl
  refine ⟨by rw [b8s_length, hl], fun _ => ⟨_, rfl, rfl, by rw [Lib.bytesWorld_size]; simp, fun j u hu => ?_⟩⟩
  have hj : j < s.size := by
    rcases Nat.lt_or_ge j s.size with h | h
    · exact h
    · rw [b8s, List.getElem?_eq_none (by simp [hl, h])] at hu; cases hu
  rw [add_lit0, Lib.bytesWorld_cell w e s j hj]
  rw [← hu]
  have hj' : j < s.data.toList.length := by rw [hl]; exact hj
  rw [b8s_at _ _ hj', List.getD_eq_getElem?_getD, List.getElem?_eq_getElem hj']
  rfl

/-! ### append -/
section
variable {P : Program} {ops : Array Oper} {rest : List Oper} {o : Oper} {a : Act} {Q : Exit → Act → World → Prop}
/-- append(v, y): the goal's world is that of the one-cell block. -/
theorem wpList_app1 {W : World} (hgd : o.guard = none) (s x : Operand) (t e : TypeId) (z : Value) (bytes : Nat)
    (ho : o.op = .call { callee := .builtin .append, args := #[s, x], argTypes := #[t, t] })
    (ht : P.underlying t = some (.slice e)) (hinfo : (P.info? e).map (fun i => (i.zero, i.size, i.bytes)) = some (some z, 1, bytes)) (hz : z.cells.size = 1) (hb0 : 0 < bytes)
    (S : Nat → Prop) (v : Value) (xs : List Value) (y : Value) (hs : a.eval s = v) (hx : a.eval x = .slice (some ⟨W.heap.size, 0, none⟩) 1 1) (h1 : y.oneCell' = true)
    (HO : Row W e S v xs) (hS : ∀ k, W.heap.size ≤ k → S k) (hl : (xs.length + 1) * bytes ≤ 140737488355328)
    (h : ∀ v1 w1, Row w1 e S v1 (xs ++ [y]) → Kept W w1 (OB v) → (∀ k, OB v1 k → OB v k ∨ W.heap.size ≤ k) → wpList P ops Q rest (a.put o.dst v1) w1) :
    wpList P ops Q (o :: rest) a (W.alloc (.cells #[y] e)) := by
  obtain ⟨i0, hi, hzz⟩ := Option.map_eq_some_iff.1 hinfo
  simp only [Prod.mk.injEq] at hzz
  obtain ⟨hz0, hz1, hz2⟩ := hzz
  have hlen : xs.length + 1 ≤ 140737488355328 := Nat.le_trans (Nat.le_mul_of_pos_right _ hb0) hl
  refine wpList_append_own_at (W.alloc (.cells #[y] e)) hgd s x t ho 0 e i0 z 1 bytes ht hi hz0 hz1 hz2 hz (by omega) v xs.length xs hs (HO.1.alloc _) ⟨W.heap.size, 0, none⟩ 1 1 [y] hx rfl
    (World.news_of_block (cs := #[y]) (t := e) (fr := (0, 0)) (heap_alloc_new W _)) (by simpa using h1) (by simp only [maxLen]; omega) hl (by simp) ?_
  intro v1 w1 hown hg _ hat
  have hat' : ∀ k, OB v1 k → OB v k ∨ W.heap.size ≤ k := by
    intro k hk
    unfold OB at hk ⊢
    rcases hat with hat | hat
    · exact .inl (hat ▸ hk)
    · rw [hat] at hk
      injection hk with hk
      refine .inr ?_
      rw [← hk]
      simp
  refine h v1 w1 ⟨by simpa using hown, fun k hk => ?_⟩ ?_ hat'
  · exact (hat' k hk).elim (HO.2 k) (hS k)
  · exact ((Kept.refl W (OB v)).alloc _).grown hg fun k hk => .inl hk
/-- append(v, ys...). -/
theorem wpList_appN {W : World} (hgd : o.guard = none) (s x : Operand) (t e : TypeId) (z : Value) (bytes : Nat)
    (ho : o.op = .call { callee := .builtin .append, args := #[s, x], argTypes := #[t, t] })
    (ht : P.underlying t = some (.slice e)) (hinfo : (P.info? e).map (fun i => (i.zero, i.size, i.bytes)) = some (some z, 1, bytes)) (hz : z.cells.size = 1) (hb0 : 0 < bytes)
    (S T : Nat → Prop) (v : Value) (xs ys : List Value) (A : Option Addr) (m c : Nat) (hs : a.eval s = v) (hx : a.eval x = .slice A m c) (h1 : ∀ u ∈ ys, u.oneCell' = true)
    (HO : Row W e S v xs) (HR : Reads W T A m ys) (hS : ∀ k, W.heap.size ≤ k → S k) (hl : (xs.length + m) * bytes ≤ 140737488355328)
    (h : ∀ v1 w1, Row w1 e S v1 (xs ++ ys) → Kept W w1 (OB v) → (∀ k, OB v1 k → OB v k ∨ W.heap.size ≤ k) → wpList P ops Q rest (a.put o.dst v1) w1) :
    wpList P ops Q (o :: rest) a W := by
  obtain ⟨i0, hi, hzz⟩ := Option.map_eq_some_iff.1 hinfo
  simp only [Prod.mk.injEq] at hzz
  obtain ⟨hz0, hz1, hz2⟩ := hzz
  have hm : ys.length = m := HR.1
  have hlen : xs.length + m ≤ 140737488355328 := Nat.le_trans (Nat.le_mul_of_pos_right _ hb0) hl
  have hrun : ∃ v1 w1, (Builtin.append_ #[t, t] o.type #[v, .slice A m c]).run P W = .ok v1 w1 ∧ w1.ownsRow 0 e 1 v1 (xs.length + m) (xs ++ ys) ∧ W.grownBy w1 v.ownBlock ∧ (v1.ownBlock = v.ownBlock ∨ v1.ownBlock = some W.heap.size) := by
    rcases A with _ | ad
    · have h0 : m = 0 := by
        rcases Nat.eq_zero_or_pos m with h0 | h0
        · exact h0
        · obtain ⟨ad, h, _⟩ := HR.2 h0
          cases h
      subst h0
      obtain rfl : ys = [] := List.eq_nil_of_length_eq_zero hm
      refine ⟨v, W, ?_, by simpa using HO.1, World.grownBy.refl W _, .inl rfl⟩
      rcases HO.1.2 with ⟨rfl, hn⟩ | ⟨g, cap, cur, rfl, _, _, hnc, _⟩
      · simp [Builtin.append_, run_underlying ht, sizeOf, typeInfo, hi, Builtin.lenOf, Builtin.firstCells]
      · simp [Builtin.append_, run_underlying ht, sizeOf, typeInfo, hi, Builtin.lenOf, Builtin.firstCells, hnc, storeCells]
    · have hcells : ∀ j u, ys[j]? = some u → W.cell? (ad.add j) = some u := by
        intro j u hu
        rcases Nat.eq_zero_or_pos m with h0 | h0
        · subst h0
          obtain rfl : ys = [] := List.eq_nil_of_length_eq_zero hm
          simp at hu
        · obtain ⟨ad', h', _, _, hc⟩ := HR.2 h0
          injection h' with h'
          subst h'
          exact hc j u hu
      obtain ⟨v1, w1, hr, h2, h3, _, h5⟩ := run_append_own_at (P := P) W 0 t o.type e i0 z 1 bytes ht hi hz0 hz1 hz2 hz (by omega) v xs.length xs HO.1 ad m c ys (by omega) hcells h1 (by simp only [maxLen]; omega) hl (by omega)
      exact ⟨v1, w1, hr, h2, h3, h5⟩
  obtain ⟨v1, w1, hr, hown, hg, hat⟩ := hrun
  refine wpList_plain hgd fun K hK => ?_
  unfold Oper.wp execOp
  simp only [ho, resolve, invoke, builtin, Sem.run_bind, Sem.run_pure, Result.andThen_ok, List.map_toArray, List.map_cons, List.map_nil, hs, hx, hr]
  have hat' : ∀ k, OB v1 k → OB v k ∨ W.heap.size ≤ k := by
    intro k hk
    unfold OB at hk ⊢
    rcases hat with hat | hat
    · exact .inl (hat ▸ hk)
    · rw [hat] at hk
      injection hk with hk
      exact .inr (by omega)
  refine hK _ _ (h v1 w1 ⟨by rw [List.length_append, hm]; exact hown, fun k hk => ?_⟩ ?_ hat')
  · exact (hat' k hk).elim (HO.2 k) (hS k)
  · exact (Kept.refl W (OB v)).grown hg fun k hk => .inl hk
end

/-! ### Cuts -/
/-- 'v[lo:hi]' of a slice of one-cell elements, its address a letter. -/
theorem cut_lh {P : Program} (t e : TypeId) (kl kh : IntKind) {i : TypeInfo} (ht : P.underlying t = some (.slice e)) (hi : P.info? e = some i) (hsz : i.size = 1) (A : Option Addr) (n c lo hi_ : Nat) (h1 : lo ≤ hi_) (h2 : hi_ ≤ c) :
    ∃ A' : Option Addr, (∀ W : World, (Instr.slice t (.slice A n c) (some (.int kl (lo : Int))) (some (.int kh (hi_ : Int))) none).run P W = .ok (.slice A' (hi_ - lo) (c - lo)) W) ∧
      ∀ (w : World) (S : Nat → Prop) (xs : List Value), hi_ ≤ n → n ≤ c → Reads w S A n xs → Reads w S A' (hi_ - lo) ((xs.take hi_).drop lo) := by
  have hel : P.elem t = e := by simp [Program.elem, ht]
  have hu : P.underlying t = some (.slice (P.elem t)) := by rw [hel]; exact ht
  refine ⟨if c = lo then A else A.map (·.add lo), fun W => ?_, fun w S xs hn hc h => ?_⟩
  · rw [run_slice_lh W t A n c hu kl kh (lo : Int) (hi_ : Int) (by omega) (by omega) (by omega), hel]
    simp [sizeOf, typeInfo, hi, hsz, sliced, Result.andThen]
  · exact (h.take hn).drop h1 (by omega)
theorem cut_l {P : Program} (t e : TypeId) (kl : IntKind) {i : TypeInfo} (ht : P.underlying t = some (.slice e)) (hi : P.info? e = some i) (hsz : i.size = 1) (A : Option Addr) (n c lo : Nat) (h1 : lo ≤ n) :
    ∃ A' : Option Addr, (∀ W : World, (Instr.slice t (.slice A n c) (some (.int kl (lo : Int))) none none).run P W = .ok (.slice A' (n - lo) (c - lo)) W) ∧
      ∀ (w : World) (S : Nat → Prop) (xs : List Value), n ≤ c → Reads w S A n xs → Reads w S A' (n - lo) (xs.drop lo) := by
  have hel : P.elem t = e := by simp [Program.elem, ht]
  have hu : P.underlying t = some (.slice (P.elem t)) := by rw [hel]; exact ht
  refine ⟨if c = lo then A else A.map (·.add lo), fun W => ?_, fun w S xs hc h => h.drop h1 hc⟩
  rw [run_slice_l W t A n c hu kl (lo : Int) (by omega) (by omega), hel]
  simp [sizeOf, typeInfo, hi, hsz, sliced, Result.andThen]
theorem cut_h {P : Program} (t e : TypeId) (kh : IntKind) {i : TypeInfo} (ht : P.underlying t = some (.slice e)) (hi : P.info? e = some i) (hsz : i.size = 1) (A : Option Addr) (n c hi_ : Nat) (h2 : hi_ ≤ c) :
    ∃ A' : Option Addr, (∀ W : World, (Instr.slice t (.slice A n c) none (some (.int kh (hi_ : Int))) none).run P W = .ok (.slice A' hi_ c) W) ∧
      ∀ (w : World) (S : Nat → Prop) (xs : List Value), hi_ ≤ n → n ≤ c → Reads w S A n xs → Reads w S A' hi_ (xs.take hi_) := by
  have hel : P.elem t = e := by simp [Program.elem, ht]
  have hu : P.underlying t = some (.slice (P.elem t)) := by rw [hel]; exact ht
  refine ⟨if c = 0 then A else A.map (·.add 0), fun W => ?_, fun w S xs hn hc h => ?_⟩
  · rw [run_slice_h W t A n c hu kh (hi_ : Int) (by omega) (by omega), hel]
    simp [sizeOf, typeInfo, hi, hsz, sliced, Result.andThen]
  · have := (h.take hn).drop (k := 0) (cap := c) (Nat.zero_le _) (by omega)
    simpa using this
/-- A row that is made without elements. -/
theorem Row.made0 (w : World) (e : TypeId) (S : Nat → Prop) (hS : S w.heap.size) : Row (w.alloc (.cells #[] e)) e S (.slice (some ⟨w.heap.size, 0, none⟩) 0 0) [] :=
  ⟨World.ownsRow_made (base := 0) (e := e) (size := 1) w #[] 0 (Nat.zero_le _) (by simp [maxLen]) rfl, fun k hk => by
    have : w.heap.size = k := by simpa [Value.ownBlock] using hk
    rw [← this]
    exact hS⟩

/-! ### A scope whose label is jumped back to; the proof bears a number that every pass lowers -/
theorem wp_scope_ghost {P : Program} {a : Act} {w : World} {Q : Exit → Act → World → Prop} {c rest : Code} (l : Nat) (I : Nat → Act → World → Prop) (n₀ : Nat) (hf : findLabel c l = some (.seq .skip rest))
    (h₀ : ∀ K : Act → World → Prop, (∀ a' w', I n₀ a' w' → rest.wp P (Exit.jump l K Q) a' w') → c.wp P (Exit.jump l K Q) a w)
    (pass : ∀ n a w, I n a w → ∀ K : Act → World → Prop, (∀ n' a' w', n' < n → I n' a' w' → K a' w') → rest.wp P (Exit.jump l K Q) a w) : (Code.scope c).wp P Q a w := by
  refine wp_scope_jumps l (fun a w => ∃ n, I n a w) (fun a w => leastOf fun n => I n a w) hf (h₀ _ fun a' w' h => pass n₀ a' w' h _ fun n' a'' w'' _ h' => ⟨n', h'⟩) ?_
  intro a w hI
  refine wp_seq (wp_skip ?_)
  refine pass _ a w (leastOf_spec hI).1 _ ?_
  intro n' a' w' hlt h'
  exact ⟨⟨n', h'⟩, Nat.lt_of_le_of_lt ((leastOf_spec ⟨n', h'⟩).2 n' h') hlt⟩
end Go.Proofs.YtammhfnolafknaaDoor
