/- Variables: New, Set, Get, Len, Clone, Names, Expand: what the program computes. -/
import Derived.Test.YtcggpedebcamdaaDoorVarE
import Derived.Laws.EntriesVeiled
set_option linter.unusedVariables false
set_option linter.unusedSimpArgs false
namespace Go.Proofs.YtcggpedebcamdaaDoor
open Go.RowKit Go.Shelf Go.Lib

/-! ### Plain -/
abbrev VarL := List (List UInt8 × List UInt8)
def findV : VarL → List UInt8 → Option (List UInt8)
  | [], _ => none
  | p :: l, k => if p.1 = k then some p.2 else findV l k
def putV : VarL → List UInt8 → List UInt8 → VarL
  | [], k, v => [(k, v)]
  | p :: l, k, v => if p.1 = k then (k, v) :: l else p :: putV l k v
def setL (m : VarL) (k v : List UInt8) : Int × VarL := if 1000 < v.length then (71, m) else if findV m k = none ∧ 16 ≤ m.length then (72, m) else (0, putV m k v)
def encV (m : VarL) : List (List UInt8 × Value) := m.map fun x => (x.1, .string (strB x.2))
theorem find_enc : ∀ (m : VarL) (k : List UInt8), findS (encV m) k = (findV m k).map fun v => .string (strB v)
  | [], k => rfl
  | p :: m, k => by
    have ih := find_enc m k
    simp only [encV, List.map_cons, findS, findV] at ih ⊢
    split
    · rfl
    · exact ih
theorem put_enc : ∀ (m : VarL) (k v : List UInt8), putS (encV m) k (.string (strB v)) = encV (putV m k v)
  | [], k, v => rfl
  | p :: m, k, v => by
    have ih := put_enc m k v
    simp only [encV, List.map_cons, putS, putV] at ih ⊢
    split
    · rfl
    · rw [ih]
      rfl
theorem find_put : ∀ (m : VarL) (k v k' : List UInt8), findV (putV m k v) k' = if k = k' then some v else findV m k'
  | [], k, v, k' => by simp [putV, findV]
  | p :: m, k, v, k' => by
    have ih := find_put m k v k'
    unfold putV
    by_cases h : p.1 = k
    · rw [if_pos h]
      simp only [findV]
      by_cases h2 : k = k'
      · rw [if_pos h2, if_pos h2]
      · rw [if_neg h2, if_neg h2, if_neg (fun e => h2 (h ▸ e))]
    · rw [if_neg h]
      simp only [findV]
      by_cases h2 : p.1 = k'
      · rw [if_pos h2, if_pos h2, if_neg (fun e => h (h2.trans e.symm))]
      · rw [if_neg h2, if_neg h2, ih]
theorem put_len : ∀ (m : VarL) (k v : List UInt8), (putV m k v).length = m.length + if findV m k = none then 1 else 0
  | [], k, v => rfl
  | p :: m, k, v => by
    have ih := put_len m k v
    unfold putV findV
    by_cases h : p.1 = k
    · rw [if_pos h, if_pos h]
      simp
    · rw [if_neg h, if_neg h, List.length_cons, ih, List.length_cons]
      omega
theorem find_len {m : VarL} {n : Nat} (h : ∀ x ∈ m, x.2.length ≤ n) : ∀ s v, findV m s = some v → v.length ≤ n := by
  induction m with
  | nil => intro s v hs; cases hs
  | cons p m ih =>
    intro s v hs
    unfold findV at hs
    split at hs
    · injection hs with hs
      rw [← hs]
      exact h p (by simp)
    · exact ih (fun x hx => h x (by simp [hx])) s v hs
theorem put_mem {m : VarL} {k v : List UInt8} : ∀ x ∈ putV m k v, x ∈ m ∨ x = (k, v) := by
  induction m with
  | nil => intro x hx; exact .inr (by simpa [putV] using hx)
  | cons p m ih =>
    intro x hx
    unfold putV at hx
    split at hx
    · rcases List.mem_cons.1 hx with h | h
      · exact .inr h
      · exact .inl (by simp [h])
    · rcases List.mem_cons.1 hx with h | h
      · exact .inl (by simp [h])
      · exact (ih x h).imp (fun h => by simp [h]) id
theorem set_small {m : VarL} {k v : List UInt8} (h : ∀ x ∈ m, x.2.length ≤ 1000) : ∀ x ∈ (setL m k v).2, x.2.length ≤ 1000 := by
  unfold setL
  split
  · exact h
  · split
    · exact h
    · intro x hx
      rcases put_mem x hx with h1 | rfl
      · exact h x h1
      · simp only
        omega
theorem set_len {m : VarL} {k v : List UInt8} (h : m.length ≤ 16) : (setL m k v).2.length ≤ 16 := by
  unfold setL
  split
  · exact h
  · split
    · exact h
    · next h1 h2 =>
      rw [put_len]
      split
      · next hf =>
        have : ¬ 16 ≤ m.length := fun hh => h2 ⟨hf, hh⟩
        omega
      · omega

/-! ### In memory -/
def VarsR (w : World) (p r : Nat) (m : VarL) : Prop := Blk w p 48 #[.map (some r)] ∧ SMap w r (encV m)
theorem VarsR.kept {w w' : World} {S : Nat → Prop} {p r : Nat} {m : VarL} (h : VarsR w p r m) (k : Kept w w' S) (hp : ¬ S p) (hr : ¬ S r) : VarsR w' p r m := ⟨h.1.kept k hp, h.2.kept k hr⟩
theorem VarsR.kept0 {w w' : World} {p r : Nat} {m : VarL} (h : VarsR w p r m) (k : Kept w w' NoB) : VarsR w' p r m := h.kept k (fun x => x) fun x => x
theorem VarsR.ne {w : World} {p r : Nat} {m : VarL} (h : VarsR w p r m) : ¬ p = r := fun e => h.2.ne_blk h.1 e.symm
theorem Blk.cell1 {w : World} {g : Nat} {t : TypeId} {a : Value} (h : Blk w g t #[a]) : w.cell? ⟨g, 0, none⟩ = some a ∧ w.frozen? ⟨g, 0, none⟩ = false := ⟨by rw [h.cell]; rfl, h.frozen 0⟩
theorem zstr : ∀ w, (zeroValue 9).run Tryd.prog w = .ok (.string ByteArray.empty) w := by
  intro w
  kernel_rfl
theorem look_V {w : World} {p r : Nat} {m : VarL} (h : VarsR w p r m) (k : List UInt8) :
    (Instr.lookup 46 (.map (some r)) (.string (strB k)) true).run Tryd.prog w = .ok (.tuple #[.string (strB ((findV m k).getD [])), .bool (findV m k).isSome]) w := by
  rw [h.2.look Tryd.underlying46 Tryd.underlying9 (zstr w) k true, find_enc]
  cases findV m k <;> rfl
theorem len_V {w : World} {p r : Nat} {m : VarL} (h : VarsR w p r m) (ty : TypeId) : (Builtin.len_ #[46] ty #[.map (some r)]).run Tryd.prog w = .ok (.int .i64 (m.length : Int)) w := by
  rw [h.2.len Tryd.underlying46 ty]
  simp [encV]
set_option maxRecDepth 100000 in
theorem new_calls (w : World) :
    Calls Tryd.prog 10 #[] w fun en w' => en = .returned (.pointer (some ⟨w.heap.size + 1, 0, none⟩)) ∧ VarsR w' (w.heap.size + 1) w.heap.size [] ∧ Kept w w' NoB := by
  have hmk : ∀ W : World, (Instr.makeMap 46 none).run Tryd.prog W = .ok (.map (some W.heap.size)) (W.alloc (.map #[] 0)) := fun W => rfl
  go_enter Tryd.func10, Tryd.ntmps10
  go_wp2_with fail
  go_ret
  refine ⟨rfl, ⟨?_, (SMap.new w).alloc _⟩, ((Kept.refl w _).alloc _).alloc _⟩
  have := Blk.new (w.alloc (.map #[] 0)) 48 #[.map (some w.heap.size)]
  rwa [World.size_alloc] at this
set_option maxHeartbeats 1000000 in
set_option maxRecDepth 100000 in
theorem set_calls (w : World) (p r : Nat) (m : VarL) (k v : List UInt8) (h : VarsR w p r m) (e : Int × VarL) (he : setL m k v = e) :
    Calls Tryd.prog 12 #[.pointer (some ⟨p, 0, none⟩), .string (strB k), .string (strB v)] w fun en w' => en = .returned (.int .i64 e.1) ∧ VarsR w' p r e.2 ∧ Kept w w' (fun b => b = r) ∧ w'.heap.size = w.heap.size := by
  have hc := h.1.cell1.1
  have hlk := look_V h k
  have hln := fun ty => len_V h ty
  obtain ⟨w1, hput, hm1, hk1, hs1⟩ := h.2.put Tryd.underlying46 Tryd.underlying9 k (.string (strB v))
  rw [put_enc] at hm1
  have H := Lib.hid h
  have HE := Lib.hid he
  have HM1 := Lib.hid hm1
  have HK1 := Lib.hid hk1
  have HS1 := Lib.hid hs1
  have hsz := strB_size v
  obtain ⟨q, hq⟩ : ∃ q, findV m k = q := ⟨_, rfl⟩
  rw [hq] at hlk
  have HQ := Lib.hid hq
  clear h he hm1 hk1 hs1 hq
  by_cases hv : 1000 < v.length
  · have t1 : (1000 : Int) < (v.length : Int) := by omega
    have e1 : e = (71, m) := by rw [← HE.out, setL, if_pos hv]
    subst e1
    clear hput
    go_enter Tryd.func12, Tryd.ntmps12
    cases q <;>
    · go_wp2_with fail
      go_ret
      exact ⟨rfl, H.out, Kept.refl _ _, rfl⟩
  · have t1 : ¬ (1000 : Int) < (v.length : Int) := by omega
    cases q with
    | none =>
      by_cases hl : 16 ≤ m.length
      · have t2 : (16 : Int) ≤ (m.length : Int) := by omega
        have e1 : e = (72, m) := by rw [← HE.out, setL, if_neg hv, if_pos ⟨HQ.out, hl⟩]
        subst e1
        clear hput
        go_enter Tryd.func12, Tryd.ntmps12
        go_wp2_with fail
        go_ret
        exact ⟨rfl, H.out, Kept.refl _ _, rfl⟩
      · have t2 : ¬ (16 : Int) ≤ (m.length : Int) := by omega
        have e1 : e = (0, putV m k v) := by rw [← HE.out, setL, if_neg hv, if_neg (fun hh => hl hh.2)]
        subst e1
        go_enter Tryd.func12, Tryd.ntmps12
        go_wp2_with fail
        go_ret
        exact ⟨rfl, ⟨H.out.1.kept HK1.out H.out.ne, HM1.out⟩, HK1.out, HS1.out⟩
    | some y =>
      have e1 : e = (0, putV m k v) := by rw [← HE.out, setL, if_neg hv, if_neg (fun hh => by rw [HQ.out] at hh; cases hh.1)]
      subst e1
      go_enter Tryd.func12, Tryd.ntmps12
      go_wp2_with fail
      go_ret
      exact ⟨rfl, ⟨H.out.1.kept HK1.out H.out.ne, HM1.out⟩, HK1.out, HS1.out⟩
set_option maxRecDepth 100000 in
theorem get_calls (w : World) (p r : Nat) (m : VarL) (k : List UInt8) (h : VarsR w p r m) :
    Calls Tryd.prog 13 #[.pointer (some ⟨p, 0, none⟩), .string (strB k)] w fun en w' => en = .returned (.tuple #[.string (strB ((findV m k).getD [])), .bool (findV m k).isSome]) ∧ w' = w := by
  have hc := h.1.cell1.1
  have hlk := look_V h k
  clear h
  go_enter Tryd.func13, Tryd.ntmps13
  go_wp2_with fail
  go_ret2
  exact ⟨rfl, rfl⟩
set_option maxRecDepth 100000 in
theorem len_calls (w : World) (p r : Nat) (m : VarL) (h : VarsR w p r m) :
    Calls Tryd.prog 15 #[.pointer (some ⟨p, 0, none⟩)] w fun en w' => en = .returned (.int .i64 (m.length : Int)) ∧ w' = w := by
  have hc := h.1.cell1.1
  have hln := fun ty => len_V h ty
  clear h
  go_enter Tryd.func15, Tryd.ntmps15
  go_wp2_with fail
  go_ret
  exact ⟨rfl, rfl⟩
set_option maxRecDepth 100000 in
theorem clone_calls (w : World) (p r : Nat) (m : VarL) (h : VarsR w p r m) :
    Calls Tryd.prog 22 #[.pointer (some ⟨p, 0, none⟩)] w fun en w' => en = .returned (.pointer (some ⟨w.heap.size + 1, 0, none⟩)) ∧ VarsR w' (w.heap.size + 1) w.heap.size m ∧ Kept w w' NoB := by
  have hc := h.1.cell1.1
  obtain ⟨es, clock, hb, hes⟩ := h.2
  have HB := Lib.hid hb
  have HES := Lib.hid hes
  clear h hb hes
  go_enter Tryd.func22, Tryd.ntmps22
  go_wp2_with fail
  refine (AnyW.maps_Clone shLaysW5 r es clock w HB.out).mono ?_
  rintro en w1 ⟨rfl, hw1⟩
  have hsz : w1.heap.size = w.heap.size + 1 := by rw [hw1, World.size_alloc]
  have hm1 : SMap w1 w.heap.size (encV m) := ⟨es, clock, by rw [hw1]; exact heap_alloc_new w _, HES.out⟩
  have hk1 : Kept w w1 NoB := by rw [hw1]; exact (Kept.refl _ _).alloc _
  have HSZ := Lib.hid hsz
  have HM1 := Lib.hid hm1
  have HK1 := Lib.hid hk1
  clear hw1 hsz hm1 hk1
  go_wp2_with fail
  go_ret
  refine ⟨by rw [← HSZ.out]; rfl, ⟨?_, HM1.out.alloc _⟩, HK1.out.alloc _⟩
  have := Blk.new w1 48 #[.map (some w.heap.size)]
  rwa [HSZ.out] at this

/-! ### Names -/
theorem info_str : (Tryd.prog.info? 9).map (fun i => (i.zero, i.size, i.bytes)) = some (some (.string ByteArray.empty), 1, 16) := by kernel_rfl
set_option maxRecDepth 100000 in
theorem namesPlain_calls (w : World) (s : ByteArray) : Calls Tryd.prog 28 #[.string s] w fun en w' => en = .returned (.tuple #[]) ∧ w' = w := by
  go_enter Tryd.func28, Tryd.ntmps28
  go_wp2_with fail
  go_end0
  exact ⟨rfl, rfl⟩
def NamesI (w0 : World) (g : Nat) (d : List Part) (w : World) : Prop :=
  ∃ v, Blk w g 34 #[v] ∧ Row w 9 (fun k => g < k) v (strs (namesP d)) ∧ Kept w0 w NoB
set_option maxHeartbeats 1000000 in
set_option maxRecDepth 100000 in
theorem namesAdd_calls (w0 w : World) (g : Nat) (d : List Part) (s : List UInt8) (h : NamesI w0 g d w) (hg : w0.heap.size ≤ g) (hl : wtP d ≤ 1099511627) :
    Calls Tryd.prog 29 #[.string (strB s), .pointer (some ⟨g, 0, none⟩)] w fun en w' => en = .returned (.bool true) ∧ NamesI w0 g (d ++ [(s, true)]) w' := by
  obtain ⟨v, hb, hr, hk⟩ := h
  obtain ⟨c0, f0⟩ := hb.cell1
  have hnl := names_len d
  have hgv : ¬ OB v g := fun h => absurd (hr.2 g h) (Nat.lt_irrefl _)
  obtain ⟨A, n, hv, _, _⟩ := hr.readsN (n := (namesP d).length) (strs_length _)
  have HB := Lib.hid hb
  have HR := Lib.hid hr
  have HK := Lib.hid hk
  have HGV := Lib.hid hgv
  have hgl := hb.lt
  subst hv
  clear hb hr hk hgv
  go_enter Tryd.func29, Tryd.ntmps29
  go_wp2_with (at_builtin; refine wpList_app1 (W := w) rfl _ _ 34 9 (.string ByteArray.empty) 16 rfl Tryd.underlying34 info_str rfl (by decide) (fun k => g < k) (.slice A (namesP d).length n) (strs (namesP d)) (.string (strB s)) rfl rfl rfl HR.out (fun k hk => by omega) (by rw [strs_length]; omega) ?_)
  intro v1 w1 hown hkp hob
  have hb1 := HB.out.kept hkp HGV.out
  obtain ⟨d0, e0⟩ := hb1.cell1
  have HOWN := Lib.hid hown
  have HKP := Lib.hid hkp
  have HB1 := Lib.hid hb1
  obtain ⟨A1, n1, c1, hv1⟩ := hown.slice
  have hne1 : v1.ownBlock ≠ some g := fun h => absurd (hown.2 g h) (Nat.lt_irrefl _)
  have HNE1 := Lib.hid hne1
  subst hv1
  clear hown hkp hob hb1 hne1 c0 f0
  go_wp2_with fail
  go_ret
  refine ⟨rfl, _, HB1.out.set_ 0 _, ?_, (HK.out.trans HKP.out fun b hb => .inr (by have := HR.out.2 b hb; omega)).setCell (p := ⟨g, 0, none⟩) (.inr hg) _⟩
  rw [namesP_app, strs_append]
  exact HOWN.out.far (p := ⟨g, 0, none⟩) HNE1.out _
set_option maxHeartbeats 1000000 in
set_option maxRecDepth 100000 in
theorem names_calls (w : World) (t : List UInt8) (hl : t.length ≤ 1099511627) (hm : MaxI w) (nl : Option (List (List UInt8))) (hn : namesL t = nl) :
    Calls Tryd.prog 16 #[.string (strB t)] w fun en w' => ∃ v, en = .returned (.tuple #[v, .bool nl.isSome]) ∧ Row w' 9 (fun k => w.heap.size ≤ k) v (strs (nl.getD [])) ∧ Kept w w' NoB := by
  have HN := Lib.hid hn
  clear hn
  go_enter Tryd.func16, Tryd.ntmps16
  go_wp2_with fail
  have h0 : NamesI w w.heap.size [] (w.alloc (.cells #[.slice none 0 0] 34)) := ⟨.slice none 0 0, Blk.new _ _ _, Row.nil _ _ _, (Kept.refl _ _).alloc _⟩
  refine (each_names _ t w.heap.size (fun _ => true) (NamesI w w.heap.size) hl h0 (fun d w' h => ?_) (fun d w1 w2 h k => ?_) (fun d a w1 h _ => ?_) (fun d s w1 h hw => ?_)).mono ?_
  · obtain ⟨v, _, _, hk⟩ := h
    exact hm.kept0 hk
  · obtain ⟨v, h1, h2, h3⟩ := h
    exact ⟨v, h1.kept0 k, h2.kept0 k, h3.trans' k⟩
  · refine (namesPlain_calls w1 _).mono ?_
    rintro en w2 ⟨rfl, rfl⟩
    obtain ⟨v, h1, h2, h3⟩ := h
    refine ⟨rfl, v, h1, ?_, h3⟩
    rw [namesP_app, namesP_plain, List.append_nil]
    exact h2
  · exact namesAdd_calls w w1 w.heap.size d s h (Nat.le_refl _) (by omega)
  · rintro en w1 ⟨b, d, rfl, ⟨v, h1, h2, h3⟩, hor⟩
    obtain ⟨c0, _⟩ := h1.cell1
    have H2 := Lib.hid h2
    have H3 := Lib.hid h3
    obtain ⟨A, n, c, hv⟩ := h2.slice
    subst hv
    rcases hor with ⟨rfl, hp, _⟩ | ⟨rfl, hp⟩
    · have hn : nl = some (namesP d) := by rw [← HN.out, namesL, hp]; rfl
      subst hn
      clear hp h1 h2 h3 h0
      go_wp2_with fail
      go_ret2
      exact ⟨_, rfl, H2.out.mono fun k _ hk => Nat.le_of_lt hk, H3.out⟩
    · have hn : nl = none := by
        rcases hp with hp | ⟨l, s, _, _, h⟩
        · rw [← HN.out, namesL, hp]; rfl
        · cases h
      subst hn
      clear hp h1 h2 h3 h0
      go_wp2_with fail
      go_ret2
      exact ⟨.slice none 0 0, rfl, Row.nil _ _ _, H3.out⟩

/-! ### Expand -/
theorem Kept.below_trans {a w w' : World} (h : Kept a w NoB) (k : Below a.heap.size w w') : Kept a w' NoB := ⟨k.os.trans h.os, k.tape.trans h.tape, k.output.trans h.output, Nat.le_trans h.size k.size, fun i hi hn => (k.block i hi).trans (h.block i hi hn)⟩
def ExpI (w0 : World) (m : VarL) (d : List Part) (w : World) : Prop := Bld w w0.heap.size (wroteP (findV m) d) ∧ Kept w0 w NoB
theorem exp_len {m : VarL} (hm : ∀ x ∈ m, x.2.length ≤ 1000) (d : List Part) : (wroteP (findV m) d).length ≤ 1000 * wtP d := wrote_len (find_len hm) (by omega) d
set_option maxRecDepth 100000 in
theorem expPlain_calls (w0 w : World) (m : VarL) (d : List Part) (a : List UInt8) (h : ExpI w0 m d w) (hm : ∀ x ∈ m, x.2.length ≤ 1000) (hw : wtP d + a.length ≤ 1099511) :
    Calls Tryd.prog 24 #[.string (strB a), .pointer (some ⟨w0.heap.size, 0, none⟩)] w fun en w' => en = .returned (.tuple #[]) ∧ ExpI w0 m (d ++ plainP a) w' := by
  obtain ⟨hb, hk⟩ := h
  have hl := exp_len hm d
  have HB := Lib.hid hb
  have HK := Lib.hid hk
  clear hb hk
  go_enter Tryd.func24, Tryd.ntmps24
  go_wp2_with fail
  refine (writeString_calls w0.heap.size _ a w HB.out (by omega)).mono ?_
  rintro en w1 ⟨rfl, hb1, hk1⟩
  have HB1 := Lib.hid hb1
  have HK1 := Lib.hid (HK.out.below_trans hk1)
  clear hb1 hk1
  go_wp2_with fail
  go_end0
  exact ⟨rfl, by unfold ExpI; rw [wroteP_app, wroteP_plain]; exact ⟨HB1.out, HK1.out⟩⟩
set_option maxHeartbeats 1000000 in
set_option maxRecDepth 100000 in
theorem expName_calls (w0 w : World) (p r g : Nat) (m : VarL) (d : List Part) (s : List UInt8) (h : ExpI w0 m d w) (hv : VarsR w0 p r m) (hg : Blk w0 g 24 #[.pointer (some ⟨p, 0, none⟩)]) (hm : ∀ x ∈ m, x.2.length ≤ 1000) (hw : wtP d + s.length + 1 ≤ 1099511) :
    Calls Tryd.prog 26 #[.string (strB s), .pointer (some ⟨g, 0, none⟩), .pointer (some ⟨w0.heap.size, 0, none⟩)] w fun en w' => en = .returned (.bool (findV m s).isSome) ∧ ExpI w0 m (d ++ [(s, true)]) w' := by
  obtain ⟨hb, hk⟩ := h
  have hl := exp_len hm d
  have hvk := hv.kept0 hk
  have hlk := look_V hvk s
  obtain ⟨c0, _⟩ := hvk.1.cell1
  obtain ⟨d0, _⟩ := (hg.kept0 hk).cell1
  have hval : ((findV m s).getD []).length ≤ 1000 := by
    cases hf : findV m s with
    | none => simp
    | some v => exact find_len hm s v hf
  have hwr : wroteP (findV m) (d ++ [(s, true)]) = wroteP (findV m) d ++ (findV m s).getD [] := by rw [wroteP_app]; simp [wroteP]
  obtain ⟨v, hv'⟩ : ∃ v, (findV m s).getD [] = v := ⟨_, rfl⟩
  obtain ⟨q, hq⟩ : ∃ q, (findV m s).isSome = q := ⟨_, rfl⟩
  rw [hv'] at hlk hval hwr
  rw [hq] at hlk ⊢
  have HB := Lib.hid hb
  have HK := Lib.hid hk
  have HW := Lib.hid hwr
  clear hb hk hvk hv hg hv' hq hwr
  go_enter Tryd.func26, Tryd.ntmps26
  go_wp2_with fail
  refine (writeString_calls w0.heap.size _ v w HB.out (by omega)).mono ?_
  rintro en w1 ⟨rfl, hb1, hk1⟩
  have HB1 := Lib.hid hb1
  have HK1 := Lib.hid (HK.out.below_trans hk1)
  clear hb1 hk1 hlk c0 d0
  go_wp2_with fail
  go_ret
  exact ⟨rfl, by unfold ExpI; rw [HW.out]; exact ⟨HB1.out, HK1.out⟩⟩
set_option maxHeartbeats 1000000 in
set_option maxRecDepth 100000 in
theorem expand_calls (w : World) (p r : Nat) (m : VarL) (t : List UInt8) (h : VarsR w p r m) (hm : ∀ x ∈ m, x.2.length ≤ 1000) (hl : t.length ≤ 1099511) (hmx : MaxI w) (e : Option (List UInt8)) (he : expandL (findV m) t = e) :
    Calls Tryd.prog 11 #[.pointer (some ⟨p, 0, none⟩), .string (strB t)] w fun en w' => en = .returned (.tuple #[.string (strB (e.getD [])), .bool e.isSome]) ∧ Kept w w' NoB := by
  have HE := Lib.hid he
  have H := Lib.hid h
  have HM := Lib.hid hm
  clear he h hm
  go_enter Tryd.func11, Tryd.ntmps11
  go_wp2_with fail
  have hv0 := H.out.kept0 ((Kept.refl w NoB).alloc (.cells #[.pointer (some ⟨p, 0, none⟩)] 24))
  have hg0 := Blk.new w 24 #[.pointer (some ⟨p, 0, none⟩)]
  have hs0 := World.size_alloc w (.cells #[.pointer (some ⟨p, 0, none⟩)] 24)
  have h0 : ExpI (w.alloc (.cells #[.pointer (some ⟨p, 0, none⟩)] 24)) m [] ((w.alloc (.cells #[.pointer (some ⟨p, 0, none⟩)] 24)).alloc (.cells #[.pointer none, .slice none 0 0] 52)) := ⟨Bld.new _, (Kept.refl _ _).alloc _⟩
  have hk0 : Kept w (w.alloc (.cells #[.pointer (some ⟨p, 0, none⟩)] 24)) NoB := (Kept.refl _ _).alloc _
  obtain ⟨w0, hw0⟩ : ∃ w0, w.alloc (.cells #[.pointer (some ⟨p, 0, none⟩)] 24) = w0 := ⟨_, rfl⟩
  rw [hw0] at hv0 hg0 hs0 h0 hk0 ⊢
  have hcall := each_expand (w0.alloc (.cells #[.pointer none, .slice none 0 0] 52)) t w.heap.size w0.heap.size (fun s => (findV m s).isSome) (ExpI w0 m) (by omega) h0 (fun d w' h => hmx.kept0 (hk0.trans' h.2)) (fun d w1 w2 h k => ⟨h.1.kept0 k, h.2.trans' k⟩)
    (fun d a w1 h hw => expPlain_calls w0 w1 m d a h HM.out (by omega)) (fun d s w1 h hw => expName_calls w0 w1 p r w.heap.size m d s h hv0 hg0 HM.out (by omega))
  rw [hs0] at hcall
  have HC := Lib.hid hcall
  have HK0 := Lib.hid hk0
  have HS0 := Lib.hid hs0
  clear hv0 hg0 hs0 h0 hk0 hw0 hcall
  refine HC.out.mono ?_
  rintro en w1 ⟨b, d, rfl, ⟨hb, hk⟩, hor⟩
  have HB := Lib.hid hb
  have HK := Lib.hid (HK0.out.trans' hk)
  have HK2 := Lib.hid hk
  rcases hor with ⟨rfl, hp, hok⟩ | ⟨rfl, hp⟩
  · have hd : e = some (wroteP (findV m) d) := by
      rw [← HE.out, expandL, hp, Option.bind_some]
      exact textP_ok fun x hx h2 => hok x.1 (by obtain ⟨a, b⟩ := x; simp only at h2; subst h2; exact hx)
    subst hd
    have hst := bldString_calls w0.heap.size _ w1 HB.out
    rw [HS0.out] at hst
    have HST := Lib.hid hst
    clear hb hk hp hok hst
    go_wp2_with fail
    refine HST.out.mono ?_
    rintro en w2 ⟨rfl, hk2⟩
    have HK3 := Lib.hid (HK0.out.trans' (HK2.out.below_trans (by rw [HS0.out]; exact hk2)))
    clear hk2
    go_wp2_with fail
    go_ret2
    exact ⟨rfl, HK3.out⟩
  · have hd : e = none := by
      rw [← HE.out, expandL]
      rcases hp with hp | ⟨l, s, hp, hs, hn⟩
      · rw [hp]; rfl
      · rw [hp, Option.bind_some]
        refine textP_bad hs ?_
        cases hf : findV m s with
        | none => rfl
        | some v => simp [hf] at hn
    subst hd
    clear hb hk hp
    go_wp2_with fail
    go_ret2
    exact ⟨rfl, HK.out⟩
end Go.Proofs.YtcggpedebcamdaaDoor
