/- Addresses: the program's Text. -/
import Derived.Test.YtlbipnfnimekfaaDoorAddrE
import Derived.Test.YtlbipnfnimekfaaDoorMask
import Derived.Lib.ItoaNum
import Derived.Lib.ItoaLen
import Derived.Lib.LaidTab
import Derived.MakeChecks
import Derived.IntWalk
import Derived.Deep.RegionLawGrows
set_option linter.unusedVariables false
set_option linter.unusedSimpArgs false
namespace Go.Proofs.YtlbipnfnimekfaaDoor
open Go.RowKit Go.Shelf Go.MakeChecks Go.Sort

def PowT (w : World) : Prop := Lib.TabIs Tryd.prog w "internal/strconv.uint64pow10" .u64 Lib.pow10Tab
theorem PowT.kept0 {w w' : World} (h : PowT w) (k : Kept w w' NoB) : PowT w' := by
  unfold PowT Lib.TabIs World.var? at h ⊢
  have hg : Tryd.prog.globalNamed "internal/strconv.uint64pow10" = some 5 := by kernel_rfl
  rw [hg, Option.bind_some] at h ⊢
  cases hh : w.heap[5]? with
  | none => rw [hh] at h; cases h
  | some o =>
    rw [hh] at h
    rw [k.heap hh fun x => x]
    exact h
theorem digits_calls (w : World) (n : Int) (h0 : -9223372036854775808 ≤ n) (h1 : n ≤ 9223372036854775807) (hp : PowT w) :
    Calls Tryd.prog 25 #[.int .i64 n] w fun en w' => en = .returned (.string (strB (Lib.itoa n))) ∧ Kept w w' NoB := by
  go_enter Tryd.func25, Tryd.ntmps25
  go_wp2_with fail
  refine (Any.strconv_Itoa shLaysM171 n h0 h1 w hp).mono ?_
  rintro en w1 ⟨rfl, k, os, rfl⟩
  have hk : Kept w (grow (w.drewN k) os) NoB := ⟨rfl, rfl, rfl, by simp [grow, World.drewN], fun i hi _ => by
    have : i < (w.drewN k).heap.size := hi
    show ((w.drewN k).heap ++ os)[i]? = _
    rw [Array.getElem?_append_left this]
    rfl⟩
  have HK := Lib.hid hk
  clear hk
  generalize grow (w.drewN k) os = w1 at HK ⊢
  go_wp2_with fail
  go_ret
  exact ⟨rfl, HK.out⟩
theorem bE156 : Builder.Extra Tryd.prog shRen156 where
  sizeBuilder := by kernel_rfl
  liesBuilder := by kernel_rfl
  t5 := Tryd.underlying5
  a5 := Tryd.isAgg5
  z5 := Tryd.sizeOf5
  v5 := Tryd.zeroValue5
  infoByte := by kernel_rfl
  cellsByte := by kernel_rfl
  sizeByte := by kernel_rfl
  neB5 := by decide
theorem itoa_len (n : Int) (h0 : -9223372036854775808 ≤ n) (h1 : n ≤ 9223372036854775807) : (Lib.itoa n).length ≤ 21 := by
  have h := Lib.nDigits_le20 n.natAbs (by omega)
  unfold Lib.itoa
  split
  · rw [List.length_cons, Lib.decDigits_length]
    have : (-n).toNat = n.natAbs := by omega
    first | omega | (rw [this]; omega)
  · rw [Lib.decDigits_length]
    have : n.toNat = n.natAbs := by omega
    first | omega | (rw [this]; omega)
/-- The six numbers of a place. -/
def sixN (x : AdL) : List Int := [x.a, x.b, x.c, x.d, x.p / 256, x.p % 256]
def textL (x : AdL) : List UInt8 := Lib.join ((sixN x).map Lib.itoa) [44]
def okI (n : Int) : Prop := -9223372036854775808 ≤ n ∧ n ≤ 9223372036854775807
def okA (x : AdL) : Prop := okI x.a ∧ okI x.b ∧ okI x.c ∧ okI x.d ∧ okI x.p
theorem six_ok {x : AdL} (h : okA x) : ∀ n ∈ sixN x, okI n := by
  obtain ⟨h1, h2, h3, h4, h5⟩ := h
  unfold okI at *
  intro n hn
  simp only [sixN, List.mem_cons, List.not_mem_nil, or_false] at hn
  rcases hn with rfl | rfl | rfl | rfl | rfl | rfl <;> omega
theorem high_div (p : Int) (hp : okI p) : (p - p % 256).tdiv 256 = p / 256 := by
  have h : p - p % 256 = p / 256 * 256 := by omega
  rw [h, Int.mul_tdiv_cancel _ (by decide)]
theorem step_six {ops : Array Oper} {o : Oper} {act : Act} {K : Act → World → Prop} {Q : Exit → Act → World → Prop} {E : Prop} {W : World} (g : Nat) (t : TypeId) (a b c d p q r : Int) (hg : o.guard = none) (s x : Operand)
    (ho : o.op = .call { callee := .builtin .append, args := #[s, x], argTypes := #[39, 39] })
    (hs : act.eval s = .slice (some ⟨g, 0, none⟩) 4 4) (hx : act.eval x = .slice (some ⟨W.heap.size, 0, none⟩) 2 2) (hB : Blk W g t #[.int .i64 a, .int .i64 b, .int .i64 c, .int .i64 d, .int .i64 p])
    (h : ∀ v1 w1, Row w1 3 (fun k => W.heap.size ≤ k) v1 (intsV [a, b, c, d, q, r]) → Kept W w1 NoB → K (act.put o.dst v1) w1) :
    if Region.wanted o (yielded ops act.tmps) = true then Oper.wp Tryd.prog o act (W.alloc (.cells #[.int .i64 q, .int .i64 r] 3)) K Q else E := by
  obtain ⟨i0, hi, hzz⟩ := Option.map_eq_some_iff.1 info_int
  simp only [Prod.mk.injEq] at hzz
  obtain ⟨hz0, hz1, hz2⟩ := hzz
  have hN := Reads.lit W 3 [.int .i64 q, .int .i64 r] #[.int .i64 q, .int .i64 r] rfl (0, 0)
  obtain ⟨ad, had, _, _, hcell⟩ := hN.2 (by simp)
  injection had with had
  subst had
  refine step_append_grows hg s x 39 ho 3 i0 (.int .i64 0) 1 8 Tryd.underlying39 hi hz0 hz1 hz2 rfl (by decide) (some ⟨g, 0, none⟩) 4 4 [.int .i64 a, .int .i64 b, .int .i64 c, .int .i64 d] hs (fun h => by cases h) rfl
    (fun bb hb j u hj => ?_) ⟨W.heap.size, 0, none⟩ 2 2 [.int .i64 q, .int .i64 r] hx rfl hcell (by intro u hu; simp at hu; rcases hu with rfl | rfl <;> rfl) (by omega) (by simp only [maxLen]; omega) (by omega) (fun v1 w1 hown hgr => ?_)
  · obtain rfl := Option.some.inj hb
    rw [add_lit0, (hB.alloc _).cell]
    rcases j with _ | _ | _ | _ | j
    · exact hj
    · exact hj
    · exact hj
    · exact hj
    · simp at hj
  · have hsz : (W.alloc (.cells #[.int .i64 q, .int .i64 r] 3)).heap.size = W.heap.size + 1 := by simp
    refine h v1 w1 ⟨⟨hown.1, hown.2.imp id fun ⟨g', cap, cur, hv, _, rest⟩ => ⟨g', cap, cur, hv, Nat.zero_le _, rest⟩⟩, fun k hk => ?_⟩ (((Kept.refl W NoB).alloc _).grown hgr fun k hk => by cases hk)
    have := (hown.lt k hk).1
    omega
theorem info_str : (Tryd.prog.info? 9).map (fun i => (i.zero, i.size, i.bytes)) = some (some (.string ByteArray.empty), 1, 16) := by kernel_rfl
theorem join_len (x : AdL) (h : okA x) : (textL x).length ≤ 200 := by
  have h0 := six_ok h
  have hl : ∀ n ∈ sixN x, (Lib.itoa n).length ≤ 21 := fun n hn => itoa_len n (h0 n hn).1 (h0 n hn).2
  have e1 := hl x.a (by simp [sixN])
  have e2 := hl x.b (by simp [sixN])
  have e3 := hl x.c (by simp [sixN])
  have e4 := hl x.d (by simp [sixN])
  have e5 := hl (x.p / 256) (by simp [sixN])
  have e6 := hl (x.p % 256) (by simp [sixN])
  have : textL x = Lib.itoa x.a ++ 44 :: (Lib.itoa x.b ++ 44 :: (Lib.itoa x.c ++ 44 :: (Lib.itoa x.d ++ 44 :: (Lib.itoa (x.p / 256) ++ 44 :: Lib.itoa (x.p % 256))))) := by
    simp [textL, sixN, Lib.join]
  rw [this]
  simp only [List.length_append, List.length_cons]
  omega
def TxS (w0 : World) (x : AdL) (gk : Nat) (v3 v21 : Value) (wr : World) : Prop :=
  ∃ i, i ≤ 6 ∧ gk = 6 - i ∧ v21 = .int .i64 (i : Int) ∧ Row wr 9 (fun b => w0.heap.size ≤ b) v3 (strs (((sixN x).take i).map Lib.itoa)) ∧ Kept w0 wr NoB
set_option maxHeartbeats 4000000 in
set_option maxRecDepth 100000 in
theorem text_calls (w : World) (x : AdL) (hx : okA x) (hp : PowT w) :
    Calls Tryd.prog 13 #[adV x] w fun en w' => en = .returned (.string (strB (textL x))) ∧ Kept w w' NoB := by
  obtain ⟨a, b, c, d, p⟩ := x
  have hm := mask255 p
  have hhd := high_div p hx.2.2.2.2
  have hpi := hx.2.2.2.2
  unfold okI at hpi
  simp only at hpi hhd
  obtain ⟨hp0, hp1⟩ := hpi
  have hw : IntKind.i64.wrap (p - p % 256) = p - p % 256 := IntWalk.i64_in _ (by omega)
  have hw2 : IntKind.i64.wrap (p / 256) = p / 256 := IntWalk.i64_in _ (by omega)
  have HX := Lib.hid hx
  have HP := Lib.hid hp
  clear hx hp
  unfold adV
  go_enter Tryd.func13, Tryd.ntmps13
  go_wp2_with fail
  have hB : Blk (w.alloc (.cells #[.int .i64 a, .int .i64 b, .int .i64 c, .int .i64 d, .int .i64 p] 29)) w.heap.size 29 #[.int .i64 a, .int .i64 b, .int .i64 c, .int .i64 d, .int .i64 p] := Blk.new w _ _
  have hK0 : Kept w (w.alloc (.cells #[.int .i64 a, .int .i64 b, .int .i64 c, .int .i64 d, .int .i64 p] 29)) NoB := (Kept.refl _ _).alloc _
  have hc4 : (w.alloc (.cells #[.int .i64 a, .int .i64 b, .int .i64 c, .int .i64 d, .int .i64 p] 29)).cell? ⟨w.heap.size, 4, none⟩ = some (.int .i64 p) := by rw [hB.cell]; rfl
  have HB := Lib.hid hB
  have HK0 := Lib.hid hK0
  clear hB hK0
  generalize w.alloc (.cells #[.int .i64 a, .int .i64 b, .int .i64 c, .int .i64 d, .int .i64 p] 29) = W0 at *
  go_region_law (refine step_six (W := W0.drew) w.heap.size 29 a b c d p (p / 256) (p % 256) rfl (.tmp 11) (.tmp 18) rfl rfl rfl HB.out.drew ?_; intro v9 w9 hrow9 hkp9; obtain ⟨V9, l9, hv9, hc9, _⟩ := hrow9.shape; subst hv9)
  have HROW := Lib.hid hrow9
  have HK9 := Lib.hid (HK0.out.drew.trans' hkp9)
  have hl9 : (intsV [a, b, c, d, p / 256, p % 256]).length = 6 := rfl
  rw [hl9] at *
  clear hrow9 hkp9 hl9
  simp only [List.getElem_toArray, List.getElem_cons_succ, List.getElem_cons_zero]
  go_simp
  go_wp2_with fail
  go_outline
  go_loopg [3, 6, 21] 6 (fun gk v3 _ v21 wr => TxS w9 ⟨a, b, c, d, p⟩ gk v3 v21 wr)
  case atStart => exact ⟨0, Nat.zero_le _, rfl, rfl, Row.nil _ _ _, Kept.refl _ _⟩
  case round =>
    obtain ⟨i, hi, hgk, rfl, hrow, hk⟩ := hrel
    have HG := Lib.hid hgk
    have HK := Lib.hid hk
    have HR3 := Lib.hid hrow
    have hsl : (sixN ⟨a, b, c, d, p⟩).length = 6 := rfl
    have hlen3 : (strs (((sixN ⟨a, b, c, d, p⟩).take i).map Lib.itoa)).length = i := by rw [strs_length, List.length_map, List.length_take, hsl]; omega
    have HL3 := Lib.hid hlen3
    clear hgk hk hlen3
    rcases Nat.lt_or_ge i 6 with hlt | hge
    · have hrd := (HROW.out.kept0 HK.out).readsN (n := 6) rfl
      obtain ⟨A', c', hv, _, hrd⟩ := hrd
      injection hv with hv1 hv2 hv3
      subst hv1
      subst hv3
      obtain ⟨ad, u, had, hu, hcell⟩ := hrd.at_ (k := i) hlt
      subst had
      obtain ⟨n, hn⟩ : ∃ n, (sixN ⟨a, b, c, d, p⟩)[i]? = some n := ⟨_, List.getElem?_eq_getElem (by rw [hsl]; exact hlt)⟩
      have hue : u = .int .i64 n := by
        have : (intsV (sixN ⟨a, b, c, d, p⟩))[i]? = some u := hu
        rw [intsV, List.getElem?_map, hn] at this
        exact (Option.some.inj this).symm
      subst hue
      have hok := six_ok HX.out n (List.mem_of_getElem? hn)
      have hmore : ((sixN ⟨a, b, c, d, p⟩).take (i + 1)).map Lib.itoa = ((sixN ⟨a, b, c, d, p⟩).take i).map Lib.itoa ++ [Lib.itoa n] := by
        rw [List.take_add_one, hn, List.map_append]
        rfl
      have HMORE := Lib.hid hmore
      obtain ⟨A6, c6, hv6, hc6, hr6⟩ := hrow.readsN (n := i) HL3.out
      subst hv6
      have hD := digits_calls wr n hok.1 hok.2 (HP.out.kept0 (HK9.out.trans' HK.out))
      have HD := Lib.hid hD
      clear hn hu hrd hrow hr6 hmore hok hD hsl
      go_wp2_with fail
      refine HD.out.mono ?_
      rintro en w4 ⟨rfl, hk4⟩
      have HK4 := Lib.hid (HK.out.trans' hk4)
      have HR4 := Lib.hid (HR3.out.kept0 hk4)
      clear hk4
      go_wp2_with (at_builtin; refine wpList_app1 (W := w4) rfl _ _ 51 9 (.string ByteArray.empty) 16 rfl Tryd.underlying51 info_str rfl (by decide) (fun b => w9.heap.size ≤ b) (.slice A6 i c6) (strs (((sixN ⟨a, b, c, d, p⟩).take i).map Lib.itoa)) (.string (strB (Lib.itoa n))) rfl rfl rfl HR4.out (fun k hk => Nat.le_trans HK4.out.size hk) (by rw [HL3.out]; omega) ?_; intro v5 w5 hrow5 hk5 hob5)
      go_roundg (6 - (i + 1))
      case measure => have := HG.out; omega
      case rel =>
        exact ⟨i + 1, hlt, rfl, by go_num, by rw [HMORE.out, strs_append]; exact hrow5, HK4.out.trans hk5 fun b hb => .inr (HR4.out.2 b hb)⟩
    · obtain rfl : i = 6 := by omega
      have htk : (sixN ⟨a, b, c, d, p⟩).take 6 = sixN ⟨a, b, c, d, p⟩ := rfl
      rw [htk] at hrow HR3 HL3
      rcases hrow.1.2 with ⟨_, h0⟩ | ⟨g, cap, cur, rfl, _, hh, hcap, _, _, hcur⟩
      · rw [HL3.out] at h0; cases h0
      · have hcells : ∀ (j : Nat) y, (((sixN ⟨a, b, c, d, p⟩).map Lib.itoa).map strB)[j]? = some y → wr.cell? ⟨g, 0 + j, none⟩ = some (.string y) := by
          intro j y hj
          have := hrow.1.cells (g := g) rfl j (.string y) (by
            simp only [strs, List.getElem?_map] at hj ⊢
            rw [Option.map_eq_some_iff] at hj
            obtain ⟨z, hz, rfl⟩ := hj
            rw [hz]; rfl)
          rwa [add_lit0, ← Nat.zero_add j] at this
        have hjn : Lib.join ((((sixN ⟨a, b, c, d, p⟩).map Lib.itoa).map strB).map (·.data.toList)) ((⟨#[44]⟩ : ByteArray).data.toList) = textL ⟨a, b, c, d, p⟩ := by
          rw [List.map_map, show ((fun x : ByteArray => x.data.toList) ∘ strB) = id from funext strB_toList, List.map_id]
          rfl
        have hjl := join_len _ HX.out
        have hJ := Any.strings_Join shLays156 bE156 g 0 cap (((sixN ⟨a, b, c, d, p⟩).map Lib.itoa).map strB) ⟨#[44]⟩ wr hcells (Array.getElem?_eq_some_iff.1 hh).1 (by simp [sixN]) (by rw [HL3.out] at hcap; simpa [sixN] using hcap) (by rw [hjn]; omega)
        rw [hjn] at hJ
        have HJ := Lib.hid hJ
        have HHJ := Lib.hid hjn
        clear hcells hjn hJ hrow hcur hh htk
        rw [HL3.out]
        go_wp2_with fail
        refine HJ.out.mono ?_
        rintro en w5 ⟨rfl, hb5⟩
        have HB5 := Lib.hid (Kept.of_below hb5)
        clear hb5
        go_wp2_with fail
        go_ret
        exact ⟨rfl, (HK9.out.trans' HK.out).trans' HB5.out⟩
end Go.Proofs.YtlbipnfnimekfaaDoor
