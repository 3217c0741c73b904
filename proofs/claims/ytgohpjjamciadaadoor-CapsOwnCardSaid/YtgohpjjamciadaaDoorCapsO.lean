/- caps: things in memory, and caps.Of. -/
import Derived.Test.YtgohpjjamciadaaDoorCapsL
import Derived.BigQuiet
import Derived.Deep.RegionLaw
set_option linter.unusedVariables false
set_option linter.unusedSimpArgs false
namespace Go.Proofs.YtgohpjjamciadaaDoor
open Go.RowKit Go.Shelf

/-! ### Things in memory: two cells each: the name, and the slice of the words -/
def CapCells (w : World) (S : Nat → Prop) (l : List CapV) (cs : List Value) : Prop :=
  cs.length = 2 * l.length ∧ ∀ i (h : i < l.length), cs[2 * i]? = some (.string (strB l[i].1)) ∧ ∃ A m c, cs[2 * i + 1]? = some (.slice A m c) ∧ m ≤ c ∧ Reads w S A m (strs l[i].2)
theorem CapCells.kept0 {w w' : World} {S : Nat → Prop} {l : List CapV} {cs : List Value} (h : CapCells w S l cs) (k : Kept w w' NoB) : CapCells w' S l cs :=
  ⟨h.1, fun i hi => by obtain ⟨h1, A, m, c, h2, h3, h4⟩ := h.2 i hi; exact ⟨h1, A, m, c, h2, h3, h4.kept0 k⟩⟩
theorem CapCells.kept {w w' : World} {S T : Nat → Prop} {l : List CapV} {cs : List Value} (h : CapCells w S l cs) (k : Kept w w' T) (hn : ∀ b, b < w.heap.size → S b → ¬ T b) : CapCells w' S l cs :=
  ⟨h.1, fun i hi => by obtain ⟨h1, A, m, c, h2, h3, h4⟩ := h.2 i hi; exact ⟨h1, A, m, c, h2, h3, h4.kept k hn⟩⟩
theorem CapCells.mono {w : World} {S T : Nat → Prop} {l : List CapV} {cs : List Value} (h : CapCells w S l cs) (hS : ∀ k, k < w.heap.size → S k → T k) : CapCells w T l cs :=
  ⟨h.1, fun i hi => by obtain ⟨h1, A, m, c, h2, h3, h4⟩ := h.2 i hi; exact ⟨h1, A, m, c, h2, h3, h4.mono hS⟩⟩
theorem CapCells.snoc {w : World} {S : Nat → Prop} {l : List CapV} {cs : List Value} (h : CapCells w S l cs) {nm : List UInt8} {ws : List (List UInt8)} {A : Option Addr} {m c : Nat} (hmc : m ≤ c) (hr : Reads w S A m (strs ws)) :
    CapCells w S (l ++ [(nm, ws)]) (cs ++ [.string (strB nm), .slice A m c]) := by
  refine ⟨by simp [h.1]; omega, fun i hi => ?_⟩
  rcases Nat.lt_or_ge i l.length with hlt | hge
  · obtain ⟨h1, A', m', c', h2, h3, h4⟩ := h.2 i hlt
    have e : (l ++ [(nm, ws)])[i] = l[i] := List.getElem_append_left hlt
    rw [e]
    exact ⟨by rw [List.getElem?_append_left (by rw [h.1]; omega)]; exact h1, A', m', c', by rw [List.getElem?_append_left (by rw [h.1]; omega)]; exact h2, h3, h4⟩
  · have hi' : i = l.length := by simp at hi; omega
    subst hi'
    have e : (l ++ [(nm, ws)])[l.length] = (nm, ws) := by simp
    rw [e]
    refine ⟨?_, A, m, c, ?_, hmc, hr⟩
    · rw [List.getElem?_append_right (by rw [h.1]; omega), h.1, Nat.sub_self]; rfl
    · rw [List.getElem?_append_right (by rw [h.1]; omega), h.1, show 2 * l.length + 1 - 2 * l.length = 1 by omega]; rfl
/-- The slice of things that one owns. -/
def CapsO (w : World) (S : Nat → Prop) (v : Value) (l : List CapV) : Prop :=
  ∃ cs, w.ownsRow 0 35 2 v l.length cs ∧ (∀ k, OB v k → S k) ∧ CapCells w (fun k => S k ∧ ¬ OB v k) l cs
/-- The slice of things that reads as l. -/
def CapsR (w : World) (S : Nat → Prop) (A : Option Addr) (n : Nat) (l : List CapV) : Prop :=
  l.length = n ∧ ∃ cs, Reads w S A (2 * n) cs ∧ CapCells w S l cs
theorem CapsR.kept0 {w w' : World} {S : Nat → Prop} {A : Option Addr} {n : Nat} {l : List CapV} (h : CapsR w S A n l) (k : Kept w w' NoB) : CapsR w' S A n l := by
  obtain ⟨h1, cs, h2, h3⟩ := h
  exact ⟨h1, cs, h2.kept0 k, h3.kept0 k⟩
theorem CapsR.mono {w : World} {S T : Nat → Prop} {A : Option Addr} {n : Nat} {l : List CapV} (h : CapsR w S A n l) (hS : ∀ k, k < w.heap.size → S k → T k) : CapsR w T A n l := by
  obtain ⟨h1, cs, h2, h3⟩ := h
  exact ⟨h1, cs, h2.mono hS, h3.mono hS⟩
theorem CapsR.nil (w : World) (S : Nat → Prop) (A : Option Addr) : CapsR w S A 0 [] := ⟨rfl, [], Reads.nil _ _ _, rfl, fun i h => absurd h (by simp)⟩
theorem CapsR.at_ {w : World} {S : Nat → Prop} {A : Option Addr} {n : Nat} {l : List CapV} (h : CapsR w S A n l) {i : Nat} (hi : i < n) (hi' : i < l.length) :
    ∃ ad B m c, A = some ad ∧ ad.block < w.heap.size ∧ w.cell? (ad.add (i * 2)) = some (.string (strB l[i].1)) ∧ w.cell? ⟨(ad.add (i * 2)).block, (ad.add (i * 2)).off + 1, none⟩ = some (.slice B m c) ∧ m ≤ c ∧ Reads w S B m (strs l[i].2) := by
  obtain ⟨h1, cs, h2, h3⟩ := h
  obtain ⟨g1, B, m, c, g2, g3, g4⟩ := h3.2 i hi'
  obtain ⟨ad, rfl, hS, hlt, hc⟩ := h2.2 (by omega)
  refine ⟨ad, B, m, c, rfl, hlt, ?_, ?_, g3, g4⟩
  · rw [Nat.mul_comm]
    exact hc _ _ g1
  · have := hc _ _ g2
    rw [Nat.mul_comm, ← add_add] at this
    exact this
theorem CapsO.shape {w : World} {S : Nat → Prop} {v : Value} {l : List CapV} (h : CapsO w S v l) : ∃ A c, v = .slice A l.length c ∧ l.length ≤ c ∧ CapsR w S A l.length l := by
  obtain ⟨cs, h1, h2, h3⟩ := h
  rcases h1.2 with ⟨rfl, hn⟩ | ⟨g, cap, cur, rfl, _, hh, hc, _, _, hcur⟩
  · obtain rfl : l = [] := List.eq_nil_of_length_eq_zero hn
    exact ⟨none, 0, rfl, Nat.le_refl _, CapsR.nil _ _ _⟩
  · refine ⟨_, cap, rfl, hc, rfl, cs, ⟨by rw [h1.1]; omega, fun hp => ⟨_, rfl, h2 g (by simp [OB, Value.ownBlock]), (Array.getElem?_eq_some_iff.1 hh).1, h1.cells (g := g) rfl⟩⟩, h3.mono fun k _ hk => hk.1⟩
theorem CapsO.kept0 {w w' : World} {S : Nat → Prop} {v : Value} {l : List CapV} (h : CapsO w S v l) (k : Kept w w' NoB) : CapsO w' S v l := by
  obtain ⟨cs, h1, h2, h3⟩ := h
  exact ⟨cs, h1.kept (k.grownBy none) (by
    rcases h : v.ownBlock with _ | b
    · exact .inl rfl
    · exact .inr (by simp)), h2, h3.kept0 k⟩
theorem CapsO.lt {w : World} {S : Nat → Prop} {v : Value} {l : List CapV} (h : CapsO w S v l) {k : Nat} (hk : OB v k) : k < w.heap.size := by
  obtain ⟨cs, h1, h2, h3⟩ := h
  exact (h1.lt k hk).2
theorem CapsO.nil (w : World) (S : Nat → Prop) : CapsO w S (.slice none 0 0) [] :=
  ⟨[], World.ownsRow_nil _ _ _ _, fun k hk => by simp [OB, Value.ownBlock] at hk, rfl, fun i h => absurd h (by simp)⟩
theorem CapsO.made0 (w : World) (S : Nat → Prop) (hS : S w.heap.size) : CapsO (w.alloc (.cells #[] 35)) S (.slice (some ⟨w.heap.size, 0, none⟩) 0 0) [] :=
  ⟨[], World.ownsRow_made (base := 0) (e := 35) (size := 2) w #[] 0 (Nat.zero_le _) (by simp [maxLen]) rfl, fun k hk => by
    have : w.heap.size = k := by simpa [OB, Value.ownBlock] using hk
    rw [← this]; exact hS, rfl, fun i h => absurd h (by simp)⟩
theorem CapsO.mono {w : World} {S T : Nat → Prop} {v : Value} {l : List CapV} (h : CapsO w S v l) (hS : ∀ k, k < w.heap.size → S k → T k) : CapsO w T v l := by
  have hlt := fun k => h.lt (k := k)
  obtain ⟨cs, h1, h2, h3⟩ := h
  exact ⟨cs, h1, fun k hk => hS k (hlt k hk) (h2 k hk), h3.mono fun k hl hk => ⟨hS k hl hk.1, hk.2⟩⟩
theorem info_cap : (Tryd.prog.info? 35).map (fun i => (i.zero, i.size, i.bytes)) = some (some (.agg #[.string ByteArray.empty, .slice none 0 0]), 2, 40) := by kernel_rfl
theorem run_appCap {W : World} (dt : TypeId) (S : Nat → Prop) (v : Value) (l : List CapV) (nm : List UInt8) (ws : List (List UInt8)) (A : Option Addr) (m c : Nat)
    (HO : CapsO W S v l) (HR : Reads W (fun k => S k ∧ ¬ OB v k) A m (strs ws)) (hmc : m ≤ c) (hS : ∀ k, W.heap.size ≤ k → S k) (hl : l.length ≤ 1099511628) :
    ∃ v1 w1, (Builtin.append_ #[29, 29] dt #[v, .slice (some ⟨W.heap.size, 0, none⟩) 1 1]).run Tryd.prog (W.alloc (.cells #[.string (strB nm), .slice A m c] 35)) = .ok v1 w1 ∧ CapsO w1 S v1 (l ++ [(nm, ws)]) ∧ Kept W w1 (OB v) := by
  obtain ⟨i0, hi, hzz⟩ := Option.map_eq_some_iff.1 info_cap
  simp only [Prod.mk.injEq] at hzz
  obtain ⟨hz0, hz1, hz2⟩ := hzz
  obtain ⟨cs, h1, h2, h3⟩ := HO
  have hlt := h1.lt
  obtain ⟨v1, w1, hr, hown, hg, _, hat⟩ := run_append_own_at (P := Tryd.prog) (W.alloc (.cells #[.string (strB nm), .slice A m c] 35)) 0 29 dt 35 i0 (.agg #[.string ByteArray.empty, .slice none 0 0]) 2 40 Tryd.underlying29 hi hz0 hz1 hz2 rfl (by omega) v l.length cs (h1.alloc _) ⟨W.heap.size, 0, none⟩ 1 1 [.string (strB nm), .slice A m c] rfl
    (World.news_of_block (cs := #[.string (strB nm), .slice A m c]) (t := 35) (fr := (0, 0)) (heap_alloc_new W _)) (by simp [Value.oneCell']) (by simp only [maxLen]; omega) (by omega) (by simp)
  refine ⟨v1, w1, hr, ?_⟩
  have hat' : ∀ k, OB v1 k → OB v k ∨ W.heap.size ≤ k := by
    intro k hk
    unfold OB at hk ⊢
    rcases hat with hat | hat
    · exact .inl (hat ▸ hk)
    · rw [hat] at hk
      injection hk with hk
      refine .inr ?_
      rw [← hk]
      simp
  have hkp : Kept W w1 (OB v) := ((Kept.refl W (OB v)).alloc _).grown hg fun k hk => .inl hk
  have hno : ∀ k, k < W.heap.size → (S k ∧ ¬ OB v k) → ((S k ∧ ¬ OB v1 k) ∧ ¬ OB v k) := fun k hl ⟨h5, h6⟩ => ⟨⟨h5, fun h7 => (hat' k h7).elim h6 fun h8 => by omega⟩, h6⟩
  refine ⟨⟨cs ++ [.string (strB nm), .slice A m c], by simpa using hown, fun k hk => (hat' k hk).elim (h2 k) (hS k), ?_⟩, hkp⟩
  exact CapCells.snoc (((h3.mono hno).kept hkp fun b _ hs => hs.2).mono fun k _ hk => hk.1) hmc (((HR.mono hno).kept hkp fun b _ hs => hs.2).mono fun k _ hk => hk.1)
theorem step_appCap {ops : Array Oper} {o : Oper} {a : Act} {K : Act → World → Prop} {Q : Exit → Act → World → Prop} {E : Prop} {W : World} (hg : o.guard = none) (s x : Operand)
    (ho : o.op = .call { callee := .builtin .append, args := #[s, x], argTypes := #[29, 29] })
    (S : Nat → Prop) (v : Value) (l : List CapV) (nm : List UInt8) (ws : List (List UInt8)) (A : Option Addr) (m c : Nat) (hs : a.eval s = v) (hx : a.eval x = .slice (some ⟨W.heap.size, 0, none⟩) 1 1)
    (HO : CapsO W S v l) (HR : Reads W (fun k => S k ∧ ¬ OB v k) A m (strs ws)) (hmc : m ≤ c) (hS : ∀ k, W.heap.size ≤ k → S k) (hl : l.length ≤ 1099511628)
    (h : ∀ v1 w1, CapsO w1 S v1 (l ++ [(nm, ws)]) → Kept W w1 (OB v) → K (a.put o.dst v1) w1) :
    if Region.wanted o (yielded ops a.tmps) = true then Oper.wp Tryd.prog o a (W.alloc (.cells #[.string (strB nm), .slice A m c] 35)) K Q else E := by
  have hw : Region.wanted o (yielded ops a.tmps) = true := by simp [Region.wanted, hg]
  rw [if_pos hw]
  obtain ⟨v1, w1, hr, h1, h2⟩ := run_appCap o.type S v l nm ws A m c HO HR hmc hS hl
  unfold Oper.wp execOp
  simp only [ho, resolve, invoke, builtin, Sem.run_bind, Sem.run_pure, Result.andThen_ok, List.map_toArray, List.map_cons, List.map_nil, hs, hx, hr]
  exact h v1 w1 h1 h2

theorem fm1 (x : List UInt8) : [x].filterMap capOf = (capOf x).toList := by cases h : capOf x <;> simp [h]
/-- The lines that were read, their things. -/
theorem capsL_snoc (L : List (List UInt8)) {i : Nat} (h : i < L.length) : capsL (L.take (i + 1)) = capsL (L.take i) ++ (capOf L[i]).toList := by
  unfold capsL
  rw [List.take_succ_eq_append_getElem h, List.filterMap_append, fm1]
theorem capsL_len (L : List (List UInt8)) : (capsL L).length ≤ L.length := List.length_filterMap_le _ _

def OfS (w0 : World) (g : Nat) (L : List (List UInt8)) (A : Option Addr) (n gk : Nat) (v5 v13 : Value) (wr : World) : Prop :=
  ∃ i, i ≤ n ∧ gk = n - i ∧ v13 = .int .i64 (i : Int) ∧ CapsO wr (fun b => g ≤ b) v5 (capsL (L.take i)) ∧ Reads wr (fun b => b < g) A n (strs L) ∧ Kept w0 wr NoB ∧ g ≤ wr.heap.size

set_option maxHeartbeats 1000000 in
set_option maxRecDepth 100000 in
theorem of_calls (w : World) (proto : Int) (code : Value) (S T : Nat → Prop) (A B : Option Addr) (n c m d : Nat) (ls : List (List UInt8)) (body : List UInt8)
    (hA : Reads w S A n (strs ls)) (hnc : n ≤ c) (hB : Reads w T B m (b8s body)) (hbl : body.length ≤ 1099511627) (hn : n ≤ 1099511627) (hm : MaxI w)
    (hcd : ∃ cs, code = .string cs) (L : List (List UInt8)) (hL : linesL proto ls body = L) (hLl : L.length ≤ 1099511627) (hLs : ∀ s ∈ L, s.length ≤ 1099511627) :
    Calls Tryd.prog 11 #[.int .i64 proto, .agg #[code, .slice A n c, .slice B m d]] w fun en w' =>
      ∃ C e, en = .returned (.slice C (capsL L).length e) ∧ (capsL L).length ≤ e ∧ CapsR w' (fun b => w.heap.size ≤ b) C (capsL L).length (capsL L) ∧ Kept w w' NoB := by
  obtain ⟨hi0, hz1, hz0⟩ := info_strI
  obtain ⟨cs, rfl⟩ := hcd
  have HL := Lib.hid hL
  have HLS := Lib.hid hLs
  clear hL hLs
  go_enter Tryd.func11, Tryd.ntmps11
  go_wp2_with fail
  refine (lines_calls _ proto _ S T A B n c m d ls body (hA.alloc _) hnc (hB.alloc _) hbl hn (hm.kept0 ((Kept.refl _ _).alloc _))).mono ?_
  rintro en w1 ⟨C, k, e, rfl, hke, hr1, hk1⟩
  rw [HL.out] at hr1
  have hkp1 : Kept w w1 NoB := ((Kept.refl _ _).alloc _).trans' hk1
  have hkl : L.length = k := by have := hr1.1; rwa [strs_length] at this
  have hr1' : Reads w1 (fun b => b < w1.heap.size) C k (strs L) := hr1.mono fun b hb _ => hb
  have HM := Lib.hid hm
  have HK1 := hkp1.size
  clear hr1 hk1 hm
  go_wp2_with fail
  go_loopg [5, 7, 8, 13] k (fun gk v5 v7 v8 v13 wr => OfS w w1.heap.size L C k gk v5 v13 wr)
  case atStart => exact ⟨0, Nat.zero_le _, rfl, rfl, CapsO.nil _ _, hr1', hkp1, Nat.le_refl _⟩
  case round =>
    obtain ⟨i, hi, hgk, rfl, hcap, hrd, hkr, hgw⟩ := hrel
    have HG := Lib.hid hgk
    have HKR := Lib.hid hkr
    have HRD := Lib.hid hrd
    have HC := Lib.hid hcap
    obtain ⟨CA, cc, hv5, _, _⟩ := hcap.shape
    subst hv5
    have hcl : (capsL (L.take i)).length ≤ 1099511627 := by
      have := capsL_len (L.take i)
      rw [List.length_take] at this
      omega
    clear hgk hkr hrd hr1' hkp1 hcap
    rcases Nat.lt_or_ge i k with hlt | hge
    · have hli : i < L.length := by omega
      obtain ⟨ad, u, hA1, hu, hcell⟩ := HRD.out.at_ hlt
      subst hA1
      rw [strs_at L i hli] at hu
      injection hu with hu
      subst hu
      have hll := HLS.out L[i] (List.getElem_mem hli)
      have hblk : ad.block < w1.heap.size := by
        obtain ⟨ad', h1, h2, h3, _⟩ := HRD.out.2 (by omega)
        injection h1 with h1
        rw [h1]
        exact h2
      have hsn := capsL_snoc L hli
      have HSN := Lib.hid hsn
      clear hsn
      go_wp2_with fail
      refine (upper_calls wr L[i] (by omega)).mono ?_
      rintro en w2 ⟨rfl, hk2⟩
      go_wp2_with fail
      refine (words_calls w2 (upL L[i]) (by rw [upL_length]; omega) (HM.out.kept0 (HKR.out.trans' hk2))).mono ?_
      rintro en w3 ⟨v8, rfl, hrow, hk3⟩
      have hk2size : w1.heap.size ≤ w2.heap.size ∧ wr.heap.size ≤ w3.heap.size := ⟨Nat.le_trans hgw hk2.size, Nat.le_trans hk2.size hk3.size⟩
      have hkr32 : wr.heap.size ≤ w2.heap.size := hk2.size
      have hkr3 := HKR.out.trans' (hk2.trans' hk3)
      have hC3 := HC.out.kept0 (hk2.trans' hk3)
      have hrd3 := HRD.out.kept0 (hk2.trans' hk3)
      obtain ⟨ws, hws⟩ : ∃ ws, wordsL (upL L[i]) = ws := ⟨_, rfl⟩
      have hco : capOf L[i] = headCap ws := by unfold capOf; rw [hws]
      rw [hws] at hrow
      obtain ⟨A8, c8, rfl, hc8, hr8⟩ := hrow.readsN (n := ws.length) (strs_length _)
      have H3 := Lib.hid hkr3
      have HC3 := Lib.hid hC3
      have HRD3 := Lib.hid hrd3
      clear hkr3 hC3 hrd3 hk2 hk3 hws hrow
      rcases ws with _ | ⟨w0, ws⟩
      · rw [hco] at HSN
        go_wp2_with fail
        go_roundg (k - (i + 1))
        case measure => have := HG.out; omega
        case rel => exact ⟨i + 1, hlt, rfl, by go_num, by rw [HSN.out]; simpa [headCap] using HC3.out, HRD3.out, H3.out, by omega⟩
      · rw [hco] at HSN
        obtain ⟨ad8, u, hA8, hu, hcell8⟩ := hr8.at_ (k := 0) (by simp)
        subst hA8
        rw [strs_at (w0 :: ws) 0 (by simp)] at hu
        injection hu with hu
        subst hu
        rw [add_zero_] at hcell8
        have HR8 := Lib.hid hr8
        have hblk8 : ad8.block < w3.heap.size := by
          obtain ⟨ad', h1, h2, h3, _⟩ := hr8.2 (by simp)
          injection h1 with h1
          rw [h1]
          exact h3
        simp only [List.length_cons] at hc8 ⊢
        have t0 : (0 : Int) < ((ws.length + 1 : Nat) : Int) := by omega
        clear hr8
        go_wp2_with fail
        have t1 : (1 : Int) ≤ (ws.length : Int) + 1 := by omega
        obtain ⟨A', hA'⟩ : ∃ A', (if c8 = 1 then some ad8 else some (⟨ad8.block, ad8.off + 1, none⟩ : Addr)) = A' := ⟨_, rfl⟩
        have hrA : Reads w3.drew (fun k => w1.heap.size ≤ k ∧ ¬ OB (.slice CA (capsL (L.take i)).length cc) k) A' ws.length (strs ws) := by
          have := HR8.out.drop (k := 1) (cap := c8) (by simp) hc8
          rw [strs_drop] at this
          have e : (if c8 = 1 then some ad8 else Option.map (fun x => x.add 1) (some ad8)) = A' := hA'
          rw [e] at this
          refine Reads.mono this fun b hb hs => ⟨Nat.le_trans hk2size.1 hs, fun ho => ?_⟩
          have h7 := HC.out.lt ho
          have h8 : w2.heap.size ≤ b := hs
          omega
        have HRA := Lib.hid hrA
        clear hrA
        go_region_law (refine step_appCap (W := w3.drew) rfl (.tmp 23) (.tmp 30) rfl (fun b => w1.heap.size ≤ b) (.slice CA (capsL (L.take i)).length cc) (capsL (L.take i)) w0 ws A' ws.length (c8 - 1) rfl rfl HC3.out HRA.out (by omega) (fun b hb => by have : w3.heap.size ≤ b := hb; omega) (by omega) ?_; intro v9 w9 hc9 hk9)
        all_goals
          go_wp2_with fail
          go_roundg (k - (i + 1))
          case measure => have := HG.out; omega
          case rel =>
            refine ⟨i + 1, hlt, rfl, by go_num, by rw [HSN.out]; exact hc9, (HRD3.out.drew).kept hk9 fun b _ hb ho => ?_, (H3.out.drew).trans hk9 fun b ho => .inr ?_, ?_⟩
            · obtain ⟨_, _, h5, _⟩ := HC.out
              have := h5 b ho
              omega
            · obtain ⟨_, _, h5, _⟩ := HC.out
              have := h5 b ho
              omega
            · have h6 : w3.heap.size ≤ w9.heap.size := hk9.size
              omega
    · obtain rfl : i = k := by omega
      have hT : L.take i = L := List.take_of_length_le (by omega)
      rw [hT] at HC
      obtain ⟨C', c', hv, h2, h3⟩ := HC.out.shape
      injection hv with hv1 _ hv2
      subst hv1 hv2
      have hTl : (capsL (L.take i)).length = (capsL L).length := by rw [hT]
      go_wp2_with fail
      go_ret
      exact ⟨_, _, rfl, h2, h3.mono fun b _ hb => by omega, HKR.out⟩
end Go.Proofs.YtgohpjjamciadaaDoor
