/- Addresses: the program's Pasv. -/
import Derived.Test.YtlbipnfnimekfaaDoorAddrF
import Derived.Test.YtlbipnfnimekfaaDoorValP
set_option linter.unusedVariables false
set_option linter.unusedSimpArgs false
namespace Go.Proofs.YtlbipnfnimekfaaDoor
open Go.RowKit Go.Shelf

theorem numW_bd {w : List UInt8} {v : Int} (h : numW w = some v) : 0 ≤ v ∧ v < 256 := by
  unfold numW at h
  split at h
  · rw [numA_val, numD] at h
    split at h
    · obtain rfl := Option.some.inj h
      omega
    · cases h
  · cases h
theorem refK_bd : ∀ (k : Nat) (s : List UInt8) (l : List Int), refK k s = some l → l.length = k + 1 ∧ ∀ x ∈ l, 0 ≤ x ∧ x < 256
  | 0, s, l, h => by
    rw [refK, Option.map_eq_some_iff] at h
    obtain ⟨n, hn, rfl⟩ := h
    exact ⟨rfl, fun x hx => by obtain rfl := List.mem_singleton.1 hx; exact numW_bd hn⟩
  | k + 1, s, l, h => by
    rw [refK] at h
    split at h
    · rename_i r _
      cases hn : numW (s.takeWhile digC) with
      | none => rw [hn] at h; cases h
      | some n =>
        rw [hn, Option.bind_some, Option.map_eq_some_iff] at h
        obtain ⟨l', hl', rfl⟩ := h
        obtain ⟨h1, h2⟩ := refK_bd k r l' hl'
        refine ⟨by simp [h1], fun x hx => ?_⟩
        rcases List.mem_cons.1 hx with rfl | hx
        · exact numW_bd hn
        · exact h2 x hx
    · cases h
/-- Where data are: four numbers and a port. -/
structure AdL where
  (a b c d p : Int)
def pasvL (s : List UInt8) : Option AdL :=
  match refK 5 (s.dropWhile fun c => !digC c) with
  | some [a, b, c, d, e, f] => if e * 256 + f = 0 then none else some ⟨a, b, c, d, e * 256 + f⟩
  | _ => none
def adV (x : AdL) : Value := .agg #[.int .i64 x.a, .int .i64 x.b, .int .i64 x.c, .int .i64 x.d, .int .i64 x.p]
def adR : Option AdL → Value
  | none => .tuple #[adV ⟨0, 0, 0, 0, 0⟩, .bool false]
  | some x => .tuple #[adV x, .bool true]
theorem results_cell_row2 {P : Program} {fn : Func} {p u : Tmp} {ty : TypeId} (h : fn.results = #[.cell p ty, .tmp u]) (tmps : Array Value) (w : World) (g : Nat) (t : TypeId) (cs : Array Value) (fr : Nat × Nat) (d : TypeDesc) (y : Value)
    (hp : tmps.getD p undef = .pointer (some ⟨g, 0, none⟩)) (hy : tmps.getD u undef = y) (hg : w.heap[g]? = some (.cells cs t fr))
    (hu : P.underlying ty = some d) (hd : (match d with | .struct _ | .array _ _ => true | _ => false) = true) (hi : (P.info? ty).map (·.size) = some cs.size) :
    (results fn tmps).run P w = .ok (.tuple #[.agg cs, y]) w := by
  rw [results_cell_tmp h, hp, hy]
  simp [asAddr, run_loadVar_row w g t ty cs fr d hg hu hd hi, Result.andThen]
theorem blk5 {w : World} {g : Nat} {t : TypeId} {a b c d e : Value} (h : Blk w g t #[a, b, c, d, e]) (a' b' c' d' e' : Int) :
    Blk (((((w.setCell ⟨g, 0, none⟩ (.int .i64 a')).setCell ⟨g, 1, none⟩ (.int .i64 b')).setCell ⟨g, 2, none⟩ (.int .i64 c')).setCell ⟨g, 3, none⟩ (.int .i64 d')).setCell ⟨g, 4, none⟩ (.int .i64 e')) g t #[.int .i64 a', .int .i64 b', .int .i64 c', .int .i64 d', .int .i64 e'] := by
  have := ((((h.set_ 0 (.int .i64 a')).set_ 1 (.int .i64 b')).set_ 2 (.int .i64 c')).set_ 3 (.int .i64 d')).set_ 4 (.int .i64 e')
  exact this
theorem kept5 {a w : World} (h : Kept a w NoB) (a' b' c' d' e' : Value) :
    Kept a (((((w.setCell ⟨a.heap.size, 0, none⟩ a').setCell ⟨a.heap.size, 1, none⟩ b').setCell ⟨a.heap.size, 2, none⟩ c').setCell ⟨a.heap.size, 3, none⟩ d').setCell ⟨a.heap.size, 4, none⟩ e') NoB :=
  ((((h.setCell (.inr (Nat.le_refl _)) _).setCell (.inr (Nat.le_refl _)) _).setCell (.inr (Nat.le_refl _)) _).setCell (.inr (Nat.le_refl _)) _).setCell (.inr (Nat.le_refl _)) _
@[go_sem] theorem arr4 (w : World) (a : Option Addr) (c : Nat) : (Instr.arrayAt 27 (.slice a 4 c)).run Tryd.prog w = .ok (.pointer a) w := by
  simp [Instr.arrayAt, run_underlying Tryd.underlying27]
def PasvPost (w : World) (s : List UInt8) (en : Ending) (w' : World) : Prop := en = .returned (adR (pasvL s)) ∧ Kept w w' NoB
theorem list6 (l : List Int) (h : l.length = 6) : ∃ a b c d e f, l = [a, b, c, d, e, f] := by
  match l, h with
  | [a, b, c, d, e, f], _ => exact ⟨a, b, c, d, e, f, rfl⟩
set_option maxHeartbeats 4000000 in
set_option maxRecDepth 100000 in
theorem pasv_calls (w : World) (s : List UInt8) (hs : s.length ≤ 1099511627) (hm : MaxI w) (he : ErrT w) :
    Calls Tryd.prog 10 #[.string (strB s)] w (PasvPost w s) := by
  go_enter Tryd.func10, Tryd.ntmps10
  have HM := Lib.hid hm
  have HE := Lib.hid he
  clear hm he
  go_wp2_with fail
  have hk0 : Kept w (w.alloc (.cells #[.int .i64 0, .int .i64 0, .int .i64 0, .int .i64 0, .int .i64 0] 29)) NoB := (Kept.refl _ _).alloc _
  refine (numbers_calls _ s hs (HM.out.kept0 hk0) (HE.out.kept0 hk0)).mono ?_
  rintro en w1 ⟨v, ok, rfl, hk1, hno, hyes⟩
  rw [six_same] at hno hyes
  have HK1 := Lib.hid hk1
  have hb : Blk w1 w.heap.size 29 #[.int .i64 0, .int .i64 0, .int .i64 0, .int .i64 0, .int .i64 0] := (Blk.new w _ _).kept0 hk1
  have HB := Lib.hid hb
  have HK := Lib.hid (hk0.trans' hk1)
  clear hk1 hk0 hb
  have c0 : w1.cell? ⟨w.heap.size, 0, none⟩ = some (.int .i64 0) := HB.out.cell 0
  have c1 : w1.cell? ⟨w.heap.size, 1, none⟩ = some (.int .i64 0) := HB.out.cell 1
  have c2 : w1.cell? ⟨w.heap.size, 2, none⟩ = some (.int .i64 0) := HB.out.cell 2
  have c3 : w1.cell? ⟨w.heap.size, 3, none⟩ = some (.int .i64 0) := HB.out.cell 3
  have c4 : w1.cell? ⟨w.heap.size, 4, none⟩ = some (.int .i64 0) := HB.out.cell 4
  have z0 := HB.out.frozen 0
  have z1 := HB.out.frozen 1
  have z2 := HB.out.frozen 2
  have z3 := HB.out.frozen 3
  have z4 := HB.out.frozen 4
  have hgl := HB.out.lt
  cases hr : refK 5 (s.dropWhile fun c => !digC c) with
  | none =>
    have hres : pasvL s = none := by unfold pasvL; rw [hr]
    have HR := Lib.hid hres
    obtain rfl := hno hr
    clear hno hyes hr hres
    go_wp2_with fail
    refine bodyPost_ret (results_cell_row2 rfl _ _ w.heap.size 29 _ (0, 0) _ (.bool false) rfl rfl (blk5 HB.out 0 0 0 0 0) Tryd.underlying29 rfl (by kernel_rfl)) rfl ?_
    exact ⟨by rw [HR.out]; rfl, kept5 HK.out _ _ _ _ _⟩
  | some l =>
    obtain ⟨hl6, hbd⟩ := refK_bd 5 _ l hr
    obtain ⟨a, b, c, d, e, f, rfl⟩ := list6 l hl6
    have he := hbd e (by simp)
    have hf := hbd f (by simp)
    obtain ⟨he0, he1⟩ := he
    obtain ⟨hf0, hf1⟩ := hf
    obtain ⟨rfl, A, cp, rfl, hrd, hcp⟩ := hyes _ hr
    obtain ⟨ad, rfl, hadS, hadl, hcell⟩ := hrd.2 (by omega)
    have hadne : ad.block ≠ w.heap.size := by
      have := HB.out
      have h2 : (w.alloc (.cells #[.int .i64 0, .int .i64 0, .int .i64 0, .int .i64 0, .int .i64 0] 29)).heap.size ≤ ad.block := hadS
      simp at h2
      omega
    have d0 : w1.cell? ad = some (.int .i64 a) := by simpa [add_zero_] using hcell 0 _ rfl
    have d1 : w1.cell? ⟨ad.block, ad.off + 1, none⟩ = some (.int .i64 b) := hcell 1 _ rfl
    have d2 : w1.cell? ⟨ad.block, ad.off + 2, none⟩ = some (.int .i64 c) := hcell 2 _ rfl
    have d3 : w1.cell? ⟨ad.block, ad.off + 3, none⟩ = some (.int .i64 d) := hcell 3 _ rfl
    have d4 : w1.cell? ⟨ad.block, ad.off + 4, none⟩ = some (.int .i64 e) := hcell 4 _ rfl
    have d5 : w1.cell? ⟨ad.block, ad.off + 5, none⟩ = some (.int .i64 f) := hcell 5 _ rfl
    have hres : pasvL s = if e * 256 + f = 0 then none else some ⟨a, b, c, d, e * 256 + f⟩ := by unfold pasvL; rw [hr]
    have HR := Lib.hid hres
    have HBD := Lib.hid hbd
    clear hno hyes hr hres hrd hcell hbd hl6
    have t4 : (4 : Int) ≤ (cp : Int) := by omega
    have t40 : (0 : Int) ≤ (cp : Int) := by omega
    have t41 : 4 ≤ cp := by omega
    go_wp2_with fail
    go_region_held3 (fun w' => w'.cell? ad = some (.int .i64 a) ∧ w'.cell? ⟨ad.block, ad.off + 1, none⟩ = some (.int .i64 b) ∧ w'.cell? ⟨ad.block, ad.off + 2, none⟩ = some (.int .i64 c) ∧ w'.cell? ⟨ad.block, ad.off + 3, none⟩ = some (.int .i64 d) ∧ w'.cell? ⟨ad.block, ad.off + 4, none⟩ = some (.int .i64 e) ∧ w'.cell? ⟨ad.block, ad.off + 5, none⟩ = some (.int .i64 f)) (first | exact ⟨d0, d1, d2, d3, d4, d5⟩ | exact ⟨(((Kept.refl w1 NoB).alloc _).drew).cell d0 (fun x => x), (((Kept.refl w1 NoB).alloc _).drew).cell d1 (fun x => x), (((Kept.refl w1 NoB).alloc _).drew).cell d2 (fun x => x), (((Kept.refl w1 NoB).alloc _).drew).cell d3 (fun x => x), (((Kept.refl w1 NoB).alloc _).drew).cell d4 (fun x => x), (((Kept.refl w1 NoB).alloc _).drew).cell d5 (fun x => x)⟩) (first
      | (go_at_call 20; refine (pair_calls _ _ _).mono ?_; rintro en _ ⟨rfl, rfl⟩)
      | (go_at_call 19; refine (port_calls _ _ _ ⟨he0, he1⟩ ⟨hf0, hf1⟩).mono ?_; rintro en _ ⟨rfl, rfl⟩))
    all_goals
      have hp : e * 256 + f = 0 ∨ ¬ e * 256 + f = 0 := Decidable.em _
      rcases hp with hp | hp
      · have hp' : ((e * 256 + f : Int) == 0) = true := by rw [beq_iff_eq]; exact hp
        have HP := Lib.hid hp
        clear hp
        go_wp2_with fail
        refine bodyPost_ret (results_cell_row2 rfl _ _ w.heap.size 29 _ (0, 0) _ (.bool false) rfl rfl ((blk5 HB.out 0 0 0 0 0).alloc _).drew Tryd.underlying29 rfl (by kernel_rfl)) rfl ?_
        exact ⟨by rw [HR.out, if_pos HP.out]; rfl, ((kept5 HK.out _ _ _ _ _).alloc _).drew⟩
      · have hp' : ((e * 256 + f : Int) == 0) = false := by rw [beq_eq_false_iff_ne]; exact hp
        have HP := Lib.hid hp
        clear hp
        go_wp2_with fail
        refine bodyPost_ret (results_cell_row2 rfl _ _ w.heap.size 29 _ (0, 0) _ (.bool true) rfl rfl ((blk5 HB.out a b c d (e * 256 + f)).alloc _).drew Tryd.underlying29 rfl (by kernel_rfl)) rfl ?_
        exact ⟨by rw [HR.out, if_neg HP.out]; rfl, ((kept5 HK.out _ _ _ _ _).alloc _).drew⟩
end Go.Proofs.YtlbipnfnimekfaaDoor
