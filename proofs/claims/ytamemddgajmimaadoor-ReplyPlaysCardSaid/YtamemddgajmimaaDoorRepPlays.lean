/- ReplyPlays's walk. -/
import Derived.Test.YtamemddgajmimaaDoorRepU
import Derived.Test.YtamemddgajmimaaDoorRowW
import Derived.Deep.RegionHeld3
import Derived.Deep.CutRange
set_option linter.unusedVariables false
set_option linter.unusedSimpArgs false
namespace Go.Proofs.YtamemddgajmimaaDoor
open Go.RowKit Go.Shelf

theorem strs_take (ls : List (List UInt8)) (k : Nat) : (strs ls).take k = strs (ls.take k) := by simp [strs, List.map_take]
theorem info_strI : ∃ i, Tryd.prog.info? 9 = some i ∧ i.size = 1 := by
  have := info_str
  obtain ⟨i, hi, hz⟩ := Option.map_eq_some_iff.1 this
  simp only [Prod.mk.injEq] at hz
  exact ⟨i, hi, hz.2.1⟩
def bitOf (b : Int) (i : Nat) : Bool := (Go.bits BinOp.and IntKind.u64 (b / 2 ^ (i % 64)) 1 == 1)
def PlR (W wr : World) (g : Nat) (p : Int) (i : Nat) (r : Option RpB) (e : Int) (nx : PSt) (v12 v13 v14 : Value) (wx : World) : Prop :=
  ∃ vr vb RB, v12 = .pointer (some ⟨RB, 0, none⟩) ∧ v13 = .bool r.isSome ∧ v14 = .int .i64 e ∧ Blk wx RB 30 #[.string (strB (rpU r).1.1), vr, vb] ∧ Row wx 9 anyB vr (strs (rpU r).1.2) ∧ Row wx 5 anyB vb (b8s (rpU r).2) ∧ MkU wx W.heap.size g p (i + 1) nx ∧ Kept wr wx (fun k => k = g ∨ W.heap.size ≤ k)
def PlS (W : World) (g : Nat) (p : Int) (bits : Nat → Bool) (ls : List (List UInt8)) (gk : Nat) (v9 v10 : Value) (wr : World) : Prop :=
  ∃ (i f : Nat) (ps : PSt), i ≤ ls.length ∧ gk = ls.length - i ∧ v9 = .int .i64 (f : Int) ∧ v10 = .int .i64 (i : Int) ∧ f ≤ i ∧ MidU p (bits f) ((ls.take i).drop f) ps ∧ (ps = .inl none → f = i) ∧ MkU wr W.heap.size g p i ps ∧ Kept W wr (fun k => k = g)
set_option maxHeartbeats 4000000 in
set_option maxRecDepth 100000 in
theorem plays_law (w : World) (p b : Int) (S : Nat → Prop) (A : Option Addr) (n c : Nat) (la : List (List UInt8)) (hA : Reads w S A n (strs la)) (hn : n ≤ 9223372036854775807) (hela : ∀ x ∈ la, x.length ≤ 9223372036854775807) (hm : MaxI w) :
    Calls Tryd.prog 3 #[.int .i64 p, .slice A n c, .int .u64 b] w fun en w' => en = .returned (.bool true) ∧ Kept w w' NoB := by
  have HA := Lib.hid hA
  have HELA := Lib.hid hela
  clear hA hela
  go_enter Tryd.func3, Tryd.ntmps3
  go_wp2_with fail
  refine (shown_calls w hm).mono ?_
  rintro en w1 ⟨rfl, hk1⟩
  have HK1 := Lib.hid hk1
  have hsz1 := hk1.size
  clear hk1
  go_wp2_with fail
  refine (new_calls w1 p).mono ?_
  rintro en w2 ⟨rfl, hw2⟩
  have h2 := MkSt.new w1 p
  rw [← hw2] at h2
  have hk2 : Kept w1 w2 NoB := by rw [hw2]; exact (Kept.refl _ _).alloc _
  have H2 := Lib.hid h2
  have HK2 := Lib.hid (HK1.out.trans' hk2)
  have hg2 := h2.lt
  clear hw2 h2 hk2
  go_wp2_with fail
  refine (short_calls w2 S A n c la (HA.out.kept0 HK2.out) hn HELA.out).mono ?_
  rintro en W ⟨va, rfl, hra, hk4⟩
  have HK4 := Lib.hid (HK2.out.trans' hk4)
  have hg4 := H2.out.kept0 hk4
  have hg4l := hg4.lt
  obtain ⟨fa, hfa⟩ : ∃ f, few40 la = f := ⟨_, rfl⟩
  have hfal : fa.length ≤ 40 := by rw [← hfa]; exact few40_len la
  have HFAE : Hid (∀ x ∈ fa, x.length ≤ 200) := by rw [← hfa]; exact few40_el la
  rw [hfa] at hra
  have hagN : ¬ OB va w1.heap.size := fun h => hra.ne_blk hg4.1 (by decide) h
  obtain ⟨A', ca, rfl, hca, hrA⟩ := hra.readsO (n := fa.length) (strs_length fa)
  have hobl : ∀ k, OB (.slice A' fa.length ca) k → k < W.heap.size := fun k hk => hra.lt hk
  have HRA := Lib.hid hrA
  have HAGN := Lib.hid hagN
  have HOBL := Lib.hid hobl
  have HG4 := Lib.hid hg4
  clear hra hk4 hg4 hfa hagN hrA hobl
  go_wp2_with fail
  obtain ⟨bits, hbits⟩ : ∃ bits : Nat → Bool, bitOf b = bits := ⟨_, rfl⟩
  have HBITS := Lib.hid hbits
  clear hbits
  go_loopg [9, 10] fa.length (fun gk v9 v10 wr => PlS W w1.heap.size p bits fa gk v9 v10 wr)
  case atStart => exact ⟨0, 0, .inl none, Nat.zero_le _, rfl, rfl, rfl, Nat.le_refl _, by rw [List.drop_zero, List.take_zero]; exact MidU.start _ _, fun _ => rfl, ⟨.slice none 0 0, HG4.out, fun k hk => absurd hk ob_nil⟩, Kept.refl _ _⟩
  case round =>
    obtain ⟨i, f, ps, hi, hgk, rfl, rfl, hfi, hmid, hrest, hmk, hkr⟩ := hrel
    have HG := Lib.hid hgk
    have HMID := Lib.hid hmid
    have HREST := Lib.hid hrest
    have HMK := Lib.hid hmk
    have HKR := Lib.hid hkr
    have hws := hkr.size
    clear hgk hmid hrest hmk hkr
    rcases Nat.lt_or_ge i fa.length with hlt | hge
    · have hrd := HRA.out.kept HKR.out (fun b _ hb e => HAGN.out (e ▸ hb))
      obtain ⟨ad, u, hAd, hu, hcell⟩ := hrd.at_ hlt
      subst hAd
      rw [strs_at fa i hlt] at hu
      injection hu with hu
      subst hu
      have hxl := HFAE.out fa[i] (List.getElem_mem hlt)
      obtain ⟨x, hx⟩ : ∃ x, fa[i] = x := ⟨_, rfl⟩
      rw [hx] at hcell hxl
      have HX := Lib.hid hx
      clear hx hrd
      go_wp2_with fail
      obtain ⟨r, e, nx, hstep⟩ : ∃ r e nx, stepU p ps x (bits i) = (r, e, nx) := ⟨_, _, _, rfl⟩
      have HSTEP := Lib.hid hstep
      clear hstep
      have HKM := Lib.hid (HK4.out.trans HKR.out fun b hb => .inr (by rw [hb]; exact hsz1))
      go_cut [12, 13, 14] from 31 to 103 (fun v12 v13 v14 wx => PlR W wr w1.heap.size p i r e nx v12 v13 v14 wx)
      case first =>
        have hsh : ∀ V : World, (Op.shift BinOp.shr IntKind.u64 b IntKind.i64 ((i : Int).tmod 64)).run Tryd.prog V = .ok (.int .u64 (b / 2 ^ (i % 64))) V := by
          intro V
          have ht : (i : Int).tmod 64 = ((i % 64 : Nat) : Int) := by rw [Int.tmod_eq_emod_of_nonneg (by omega)]; omega
          rw [ht, shift_shr _ _ _ _ (by omega) (by have : i % 64 < 64 := Nat.mod_lt _ (by omega); show ((i % 64 : Nat) : Int) ≤ 64; omega)]
          rfl
        have hcb : (ad.add i).block < wr.heap.size := World.block_lt_of_cell? wr _ hcell
        have hwb : w1.heap.size < wr.heap.size := by omega
        go_region_with (refine (lineU_calls wr _ W.heap.size w1.heap.size p i ps x (bitOf b i) (r, e, nx) HMK.out (by first | exact (Kept.refl _ _).drew | exact ((Kept.refl _ _).alloc _).drew) hws (by omega) (by omega) (hm.kept0 (by first | exact HKM.out.drew | exact (HKM.out.alloc _).drew)) (by rw [HBITS.out]; exact HSTEP.out)).mono ?_; rintro en wq ⟨vr, vb, rfl, hr1, hb1, hmk1, hkq⟩; obtain ⟨A1, m1, k1, rfl⟩ := hr1.slice; obtain ⟨A2, m2, k2, rfl⟩ := hb1.slice; try (have hbx := (Blk.new wr 30 #[.string ByteArray.empty, .slice none 0 0, .slice none 0 0]).drew.kept hkq (by omega); obtain ⟨r0, r1, r2, q0, q1, q2⟩ := hbx.cells3))
        all_goals (go_wp2_with fail; go_meet)
        all_goals first
          | exact ⟨_, _, wq.heap.size, rfl, rfl, rfl, Blk.new _ _ _, hr1.alloc _, hb1.alloc _, hmk1.kept0 ((Kept.refl _ _).alloc _), (((Kept.refl wr NoB).drew.of_no.trans hkq fun b hb => .inl (hb.imp id fun h => h.1)).alloc _)⟩
          | exact ⟨_, _, wr.heap.size, rfl, rfl, rfl, hbx.set3 _ _ _, hr1.far3 (hr1.ne_blk hbx (by decide)) _ _ _, hb1.far3 (hb1.ne_blk hbx (by decide)) _ _ _, hmk1.keptR hbx ((Kept.refl wq (fun k => k = wr.heap.size)).set3 (.inl rfl) _ _ _), (((Kept.refl wr NoB).alloc _).drew.of_no.trans hkq fun b hb => .inl (hb.imp id fun h => h.1)).set3 (.inr (Nat.le_refl _)) _ _ _⟩
      case rest =>
        obtain ⟨vr, vb, RB, rfl, rfl, rfl, hbR, hr1, hb1, hmk1, hkx⟩ := hcut
        have hil : i + 1 ≤ ca := by omega
        obtain ⟨hi0, hz1, hz0⟩ := info_strI
        obtain ⟨A2, hsl, hsr⟩ := cut_h (P := Tryd.prog) 22 9 .i64 Tryd.underlying22 hz1 hz0 (some ad) fa.length ca (i + 1) hil
        have hkW : Kept W wc (fun k => k = w1.heap.size ∨ W.heap.size ≤ k) := (HKR.out.mono fun k hk => .inl hk).trans hkx fun b hb => .inl hb
        have hrd2 := hsr wc _ _ (by omega) hca (HRA.out.kept hkW (fun b hbl hb e => by
          rcases e with rfl | e
          · exact HAGN.out hb
          · have := HOBL.out b hb; omega))
        rw [strs_take] at hrd2
        obtain ⟨x0, x1, x2, _, _, _⟩ := hbR.cells3
        have hlR := hbR.lt
        have HBR := Lib.hid hbR
        have HR1 := Lib.hid hr1
        have HB1 := Lib.hid hb1
        have HMK1 := Lib.hid hmk1
        have HKW := Lib.hid hkW
        have HRD2 := Lib.hid hrd2
        have HSL : ∀ V : World, (Instr.slice 22 (.slice (some ad) fa.length ca) none (some (.int .i64 ((i : Int) + 1))) none).run Tryd.prog V = .ok (.slice A2 (i + 1) ca) V := fun V => hsl V
        have HKX := Lib.hid hkx
        clear hbR hr1 hb1 hmk1 hkx hkW hrd2 hsl hsr hcell
        go_wp2_with fail
        have hbits' := HBITS.out
        subst hbits'
        have hpre : (fa.take (i + 1)).drop f = (fa.take i).drop f ++ [x] := by
          rw [List.take_succ_eq_append_getElem hlt, HX.out, List.drop_append_of_le_length (by rw [List.length_take]; omega)]
        have hpn : (fa.take i).drop f = [] → f = i := fun h => by
          have := congrArg List.length h
          rw [List.length_drop, List.length_take, List.length_nil] at this
          omega
        have hmid := HMID.out
        obtain ⟨A5, k5, rfl, hk5, hR5⟩ := HR1.out.reads
        obtain ⟨A6, k6, rfl, hk6, hR6⟩ := HB1.out.reads
        have HR5 := Lib.hid hR5
        have HR6 := Lib.hid hR6
        have hlen := stepU_len HMK.out HSTEP.out
        refine (oneU_calls wc p _ A2 (i + 1) ca f (fa.take (i + 1)) ((fa.take i).drop f) x (bitOf b f) (bitOf b i) ps r e nx HRD2.out (by omega) hpre (fun y hy => by have := HFAE.out y (List.mem_of_mem_take hy); omega) hmid (fun h => by rw [hpn h]) HSTEP.out).mono ?_
        rintro en wz ⟨ur, ub, nxt, rfl, hnxt, h1, h2, hkz⟩
        obtain ⟨A7, k7, rfl, hk7, hR7⟩ := h1.reads
        obtain ⟨A8, k8, rfl, hk8, hR8⟩ := h2.reads
        have hb2 := HBR.out.kept0 hkz
        have HKZ0 := Lib.hid hkz
        have HR7 := Lib.hid hR7
        have HR8 := Lib.hid hR8
        have HNXT := Lib.hid hnxt
        have HPRE := Lib.hid hpre
        have HPN := Lib.hid hpn
        have hlz := hb2.lt
        clear x0 x1 x2
        obtain ⟨x0, x1, x2, _, _, _⟩ := hb2.cells3
        clear hR5 hR6 hmid hpre hpn hnxt h1 h2 hR7 hR8 hb2
        go_wp2_with fail
        refine (same11b_calls _ _ _ _ _ A5 A7 A6 A8 _ k5 _ k7 _ _ k6 k8 (rpU r).1.2 (rpU r).1.2 (rpU r).1.1 (rpU r).1.1 (rpU r).2 (rpU r).2 (HR5.out.kept0 (hkz.alloc _)) (HR7.out.alloc _) (HR6.out.kept0 (hkz.alloc _)) (HR8.out.alloc _) (by rw [strs_length]; omega) (by rw [strs_length]; omega)).mono ?_
        rw [decide_eq_true rfl, beq_self_eq_true, beq_self_eq_true, Bool.and_self, Bool.and_self]
        rintro en wy ⟨rfl, hky⟩
        have HKZ := Lib.hid ((HKZ0.out.alloc (.cells #[.string (strB (rpU r).1.1), .slice A7 (strs (rpU r).1.2).length k7, .slice A8 (b8s (rpU r).2).length k8] 30)).trans' hky)
        clear hkz hky x0 x1 x2 hlen
        have hbusy := busyU_calls wy W.heap.size w1.heap.size p (i + 1) nx (HMK1.out.kept0 HKZ.out)
        have HBUSY := Lib.hid hbusy
        clear hbusy
        have hor : (∃ q, r = some q) ∨ (r = none ∧ e ≠ 0) ∨ (r = none ∧ e = 0) := by
          cases r with
          | some q => exact .inl ⟨q, rfl⟩
          | none =>
            by_cases he : e = 0
            · exact .inr (.inr ⟨rfl, he⟩)
            · exact .inr (.inl ⟨rfl, he⟩)
        rcases hor with ⟨q, rfl⟩ | ⟨rfl, he⟩ | ⟨rfl, rfl⟩
        · have hnx := stepU_end HSTEP.out (.inl rfl)
          have hn1 := HNXT.out (.inl rfl)
          subst hnx hn1
          simp only [Option.isSome_some]
          go_wp2_with fail
          refine HBUSY.out.mono ?_
          rintro en wb ⟨rfl, rfl⟩
          simp only [Busy, Option.isSome_none]
          go_wp2_with fail
          go_roundg (fa.length - (i + 1))
          case measure => have := HG.out; omega
          case rel => exact ⟨i + 1, i + 1, .inl none, hlt, rfl, by go_num, by go_num, Nat.le_refl _, by rw [List.drop_eq_nil_of_le (by rw [List.length_take]; omega)]; exact MidU.start _ _, fun _ => rfl, HMK1.out.kept0 HKZ.out, (HKR.out.trans HKX.out fun b hb => hb).trans' HKZ.out⟩
        · have hnx := stepU_end HSTEP.out (.inr he)
          have hn1 := HNXT.out (.inr he)
          subst hnx hn1
          have he1 : (e == 0) = false := beq_eq_false_iff_ne.2 he
          have he2 : (e != 0) = true := by rw [bne, he1]; rfl
          simp only [Option.isSome_none]
          go_wp2_with fail
          refine HBUSY.out.mono ?_
          rintro en wb ⟨rfl, rfl⟩
          simp only [Busy, Option.isSome_none]
          go_wp2_with fail
          go_roundg (fa.length - (i + 1))
          case measure => have := HG.out; omega
          case rel => exact ⟨i + 1, i + 1, .inl none, hlt, rfl, by go_num, by go_num, Nat.le_refl _, by rw [List.drop_eq_nil_of_le (by rw [List.length_take]; omega)]; exact MidU.start _ _, fun _ => rfl, HMK1.out.kept0 HKZ.out, (HKR.out.trans HKX.out fun b hb => hb).trans' HKZ.out⟩
        · have hnx := stepU_mid HSTEP.out (by simp)
          have hgo := MidU.go HMID.out (fun h => by rw [HPN.out h]) HSTEP.out (by simp)
          have hbs : Busy nx = true := by
            rcases nx with st | y
            · cases st with
              | none => exact absurd rfl hnx
              | some q => rfl
            · rfl
          have HGO := Lib.hid hgo
          have HNX := Lib.hid hnx
          rw [hbs] at HBUSY
          clear hgo hnx hbs
          simp only [Option.isSome_none]
          go_wp2_with fail
          refine HBUSY.out.mono ?_
          rintro en wb ⟨rfl, rfl⟩
          go_wp2_with fail
          go_roundg (fa.length - (i + 1))
          case measure => have := HG.out; omega
          case rel => exact ⟨i + 1, f, nx, hlt, rfl, rfl, by go_num, by omega, by rw [HPRE.out]; exact HGO.out, fun h => absurd h HNX.out, HMK1.out.kept0 HKZ.out, (HKR.out.trans HKX.out fun b hb => hb).trans' HKZ.out⟩
    · obtain rfl : i = fa.length := by omega
      go_wp2_with fail
      go_ret
      exact ⟨rfl, HK4.out.trans HKR.out fun b hb => .inr (by rw [hb]; exact hsz1)⟩
theorem IsStrs.len_leP {w : World} {a : Option Addr} {len cap : Nat} {zs : List ByteArray} (h : IsStrs w a len cap zs) : len ≤ 9223372036854775807 := by
  rcases h with ⟨rfl, rfl, rfl, rfl⟩ | ⟨x, rfl, hl, hm, _⟩
  · omega
  · unfold maxLen at hm; omega
theorem replyPlays_walk (W : World) (a0 : Int) (a1 : Option Addr) (len1 cap1 : Nat) (z1 : List ByteArray) (a2 : Int) (w0 : (Lit.int .i64 a0).wf = true) (w1 : IsStrs W a1 len1 cap1 z1) (w2 : (Lit.int .u64 a2).wf = true) (hsh : W.ShapedOpen Tryd.prog) :
    Calls Tryd.prog 3 #[.int .i64 a0, .slice a1 len1 cap1, .int .u64 a2] W fun en w' => en = .returned (.bool true) ∧ Below W.heap.size W w' := by
  obtain ⟨hr1, hc1, hl1, hs1⟩ := w1.reads
  have e : ∀ zs : List ByteArray, zs.map Value.string = strs (zs.map fun s => s.data.toList) := fun zs => by
    unfold strs
    rw [List.map_map]
    exact List.map_congr_left fun s _ => by simp [strB_data]
  have el : ∀ zs : List ByteArray, (∀ s ∈ zs, s.size ≤ maxLen) → ∀ x ∈ zs.map (fun s => s.data.toList), x.length ≤ 9223372036854775807 := fun zs h x hx => by
    obtain ⟨s, hs, rfl⟩ := List.mem_map.1 hx
    have := h s hs
    unfold maxLen at this
    rw [Array.length_toList]
    exact this
  rw [e] at hr1
  refine (plays_law W a0 a2 _ a1 len1 cap1 _ hr1 (w1.len_leP) (el _ hs1) (MaxI.of_shape hsh)).mono fun _ _ ⟨he, hk⟩ => ⟨he, hk.below⟩
end Go.Proofs.YtamemddgajmimaaDoor
