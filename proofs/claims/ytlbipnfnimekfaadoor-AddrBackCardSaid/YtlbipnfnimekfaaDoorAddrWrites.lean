/- AddrWrites' walk. -/
import Derived.Test.YtlbipnfnimekfaaDoorAddrX
import Derived.Test.YtlbipnfnimekfaaDoorAddrAll
set_option linter.unusedVariables false
set_option linter.unusedSimpArgs false
namespace Go.Proofs.YtlbipnfnimekfaaDoor
open Go.RowKit Go.Shelf

/-- The cells of a place of which i numbers are set. -/
def arrI (l : List Int) (p : Int) (i : Nat) : Array Value := (((List.range 4).map fun j => Value.int .i64 (if j < i then l.getD j 0 else 0)) ++ [Value.int .i64 p]).toArray
theorem arrI_set (l : List Int) (p : Int) (i : Nat) (hi : i < 4) (n : Int) (hn : l[i]? = some n) : (arrI l p i).setIfInBounds i (.int .i64 n) = arrI l p (i + 1) := by
  have hd : l.getD i 0 = n := by rw [List.getD_eq_getElem?_getD, hn]; rfl
  rw [← hd]
  rcases i with _ | _ | _ | _ | i
  · rfl
  · rfl
  · rfl
  · rfl
  · omega
def WrS (w : World) (gh ga : Nat) (l m : List Int) (p : Int) (gk : Nat) (v7 v8 : Value) (wr : World) : Prop :=
  ∃ i, i ≤ 4 ∧ gk = 4 - i ∧ v8 = .int .i64 (i : Int) ∧ v7 = .string (strB (preT (m.take i))) ∧ Blk wr gh 27 (l.map fun n => Value.int .i64 n).toArray ∧ Blk wr ga 29 (arrI m p i) ∧ Kept w wr NoB
set_option maxHeartbeats 4000000 in
set_option maxRecDepth 100000 in
theorem writes_law (w : World) (h0 h1 h2 h3 : Int) (p : Int) (hp0 : 0 ≤ p) (hp1 : p ≤ 65535) (hL : LdT w) :
    Calls Tryd.prog 6 #[.agg #[.int .i64 h0, .int .i64 h1, .int .i64 h2, .int .i64 h3], .int .u16 p] w fun en w' => en = .returned (.bool true) ∧ Below w.heap.size w w' := by
  have hx : fineA ⟨h0 % 256, h1 % 256, h2 % 256, h3 % 256, p⟩ := by unfold fineA; simp only; omega
  have hok : okA ⟨h0 % 256, h1 % 256, h2 % 256, h3 % 256, p⟩ := by unfold okA okI; simp only; omega
  have htp := textL_pre ⟨h0 % 256, h1 % 256, h2 % 256, h3 % 256, p⟩
  have hjl := join_len _ hok
  have hps := pasv_text (A := []) (B := []) (x := ⟨h0 % 256, h1 % 256, h2 % 256, h3 % 256, p⟩) (by intro c hc; cases hc) (by intro c t h; cases h) hx
  rw [List.nil_append, List.append_nil] at hps
  simp only at hps htp
  obtain ⟨TX, hTX⟩ : ∃ t, textL ⟨h0 % 256, h1 % 256, h2 % 256, h3 % 256, p⟩ = t := ⟨_, rfl⟩
  have htc := fun W hp => text_calls W ⟨h0 % 256, h1 % 256, h2 % 256, h3 % 256, p⟩ hok hp
  unfold adV at htc
  simp only at htc
  rw [hTX] at hps htp hjl htc
  obtain ⟨l, hl⟩ : ∃ l, [h0, h1, h2, h3] = l := ⟨_, rfl⟩
  obtain ⟨m, hm⟩ : ∃ m, [h0 % 256, h1 % 256, h2 % 256, h3 % 256] = m := ⟨_, rfl⟩
  have hlm : m = l.map (· % 256) := by rw [← hl, ← hm]; rfl
  have hl4 : l.length = 4 := by rw [← hl]; rfl
  have ha4 : arrI m p 4 = #[.int .i64 (h0 % 256), .int .i64 (h1 % 256), .int .i64 (h2 % 256), .int .i64 (h3 % 256), .int .i64 p] := by rw [← hm]; rfl
  have ha0 : arrI m p 0 = #[.int .i64 0, .int .i64 0, .int .i64 0, .int .i64 0, .int .i64 p] := rfl
  have hlv : (l.map fun n => Value.int .i64 n).toArray = #[.int .i64 h0, .int .i64 h1, .int .i64 h2, .int .i64 h3] := by rw [← hl]; rfl
  rw [hm] at htp
  have HTC := Lib.hid htc
  have HTP := Lib.hid htp
  have HPS := Lib.hid hps
  have HLM := Lib.hid hlm
  have HL4 := Lib.hid hl4
  have HA4 := Lib.hid ha4
  have HA0 := Lib.hid ha0
  have HLV := Lib.hid hlv
  have HL := Lib.hid hL
  clear htc htp hps hlm hl4 ha4 ha0 hlv hL hx hok hTX hl hm
  go_enter Tryd.func6, Tryd.ntmps6
  go_wp2_with fail
  have HK0 := Lib.hid ((Kept.refl w NoB).alloc (.cells #[.int .i64 h0, .int .i64 h1, .int .i64 h2, .int .i64 h3] 27))
  have HH0 := Lib.hid (Blk.new w 27 #[.int .i64 h0, .int .i64 h1, .int .i64 h2, .int .i64 h3])
  generalize w.alloc (.cells #[.int .i64 h0, .int .i64 h1, .int .i64 h2, .int .i64 h3] 27) = W0 at *
  obtain ⟨gh, hgh⟩ : ∃ g, w.heap.size = g := ⟨_, rfl⟩
  have HGH := Lib.hid hgh
  rw [hgh] at HH0 ⊢
  clear hgh
  refine (shown_calls W0 (HL.out.kept0 HK0.out)).mono ?_
  rintro en w1 ⟨rfl, hk⟩
  have HK1 := Lib.hid (HK0.out.trans' hk)
  have HH1 := Lib.hid (HH0.out.kept0 hk)
  clear hk
  go_wp2_with fail
  have HK2 := Lib.hid (HK1.out.alloc (.cells #[.int .i64 0, .int .i64 0, .int .i64 0, .int .i64 0, .int .i64 p] 29))
  have HH2 := Lib.hid (HH1.out.alloc (.cells #[.int .i64 0, .int .i64 0, .int .i64 0, .int .i64 0, .int .i64 p] 29))
  have HA2 := Lib.hid (Blk.new w1 29 #[.int .i64 0, .int .i64 0, .int .i64 0, .int .i64 0, .int .i64 p])
  have hsz : w.heap.size ≤ w1.heap.size := HK1.out.size
  generalize w1.alloc (.cells #[.int .i64 0, .int .i64 0, .int .i64 0, .int .i64 0, .int .i64 p] 29) = W2 at *
  obtain ⟨ga, hga⟩ : ∃ g, w1.heap.size = g := ⟨_, rfl⟩
  rw [hga] at HA2 hsz ⊢
  clear hga
  have hne : gh ≠ ga := HH2.out.ne_ HA2.out (by decide)
  go_loopg [7, 8] 4 (fun gk v7 v8 wr => WrS w gh ga l m p gk v7 v8 wr)
  case atStart => exact ⟨0, Nat.zero_le _, rfl, rfl, rfl, by rw [HLV.out]; exact HH2.out, by rw [HA0.out]; exact HA2.out, HK2.out⟩
  case round =>
    obtain ⟨i, hi, hgk, rfl, rfl, hbh, hba, hk⟩ := hrel
    have HG := Lib.hid hgk
    have HBH := Lib.hid hbh
    have HBA := Lib.hid hba
    have HK := Lib.hid hk
    clear hgk hbh hba hk
    rcases Nat.lt_or_ge i 4 with hlt | hge
    · have hli : i < l.length := by rw [HL4.out]; exact hlt
      obtain ⟨n, hn⟩ : ∃ n, l[i]? = some n := ⟨_, List.getElem?_eq_getElem hli⟩
      have hmn : m[i]? = some (n % 256) := by rw [HLM.out, List.getElem?_map, hn]; rfl
      have hc : wr.cell? ⟨gh, i, none⟩ = some (.int .i64 n) := by rw [HBH.out.cell, List.getElem?_toArray, List.getElem?_map, hn]; rfl
      have hca : wr.cell? ⟨ga, i, none⟩ = some (.int .i64 ((if i < i then m.getD i 0 else 0))) := by
        rw [HBA.out.cell, arrI, List.getElem?_toArray, List.getElem?_append_left (by simp; exact hlt), List.getElem?_map, List.getElem?_range hlt]
        rfl
      have hfz := HBA.out.frozen i
      have hgl := HBA.out.lt
      have hset := HBA.out.set_ i (.int .i64 (n % 256))
      rw [arrI_set m p i hlt _ hmn] at hset
      have hmk := mask255 n
      have hmore : preT (m.take (i + 1)) = (preT (m.take i) ++ Lib.itoa (n % 256)) ++ [44] := by
        rw [List.take_add_one, hmn]
        exact preT_snoc _ _
      have hpl := preT_len (m.take i) fun y hy => by
        have := List.mem_of_mem_take hy
        rw [HLM.out, List.mem_map] at this
        obtain ⟨z, _, rfl⟩ := this
        unfold okI
        omega
      rw [List.length_take] at hpl
      rw [itoa_nn (by omega : 0 ≤ n % 256)] at hmore
      have hil := dec_len3 (u := (n % 256).toNat) (by omega)
      have hD := lawDig (n % 256).toNat (n % 256).toNat (Nat.le_refl _) (by omega) (n % 256) (by omega)
      obtain ⟨P, hP⟩ : ∃ P, preT (m.take i) = P := ⟨_, rfl⟩
      obtain ⟨Q, hQ⟩ : ∃ Q, Lib.decDigits (n % 256).toNat = Q := ⟨_, rfl⟩
      rw [hP] at hmore hpl ⊢
      rw [hQ] at hmore hil hD
      have hpl' : P.length ≤ 88 := by omega
      have e1 := dg_app P Q
      have e2 := comma_app (P ++ Q)
      have hpq : (P ++ Q).length ≤ 109 := by rw [List.length_append]; omega
      have HM := Lib.hid hmore
      have HD := Lib.hid hD
      have HST := Lib.hid hset
      have hcw : (wr.setCell ⟨ga, i, none⟩ (.int .i64 (n % 256))).cell? ⟨gh, i, none⟩ = some (.int .i64 n) := by
        have := HBH.out.far (p := ⟨ga, i, none⟩) hne (.int .i64 (n % 256))
        rw [this.cell, List.getElem?_toArray, List.getElem?_map, hn]
        rfl
      clear hmore hn hP hQ hli hmn hset hD hpl
      go_wp2_with fail
      refine (HD.out _).mono ?_
      rintro en _ ⟨rfl, rfl⟩
      go_wp2_with fail
      go_roundg (4 - (i + 1))
      case measure => have := HG.out; omega
      case rel => exact ⟨i + 1, hlt, rfl, by go_num, by rw [HM.out]; simp, HBH.out.far hne _, HST.out, HK.out.setCell (.inr hsz) _⟩
    · obtain rfl : i = 4 := by omega
      have htk : m.take 4 = m := List.take_of_length_le (by rw [HLM.out, List.length_map, HL4.out]; exact Nat.le_refl _)
      rw [htk]
      have htp := HTP.out
      have hpl := preT_len m fun y hy => by
        rw [HLM.out, List.mem_map] at hy
        obtain ⟨z, _, rfl⟩ := hy
        unfold okI
        omega
      rw [HLM.out, List.length_map, HL4.out, ← HLM.out] at hpl
      rw [itoa_nn (by omega : 0 ≤ p / 256), itoa_nn (by omega : 0 ≤ p % 256)] at htp
      have hil1 := dec_len3 (u := (p / 256).toNat) (by omega)
      have hil2 := dec_len3 (u := (p % 256).toNat) (by omega)
      have HD1 := Lib.hid (lawDig (p / 256).toNat (p / 256).toNat (Nat.le_refl _) (by omega) (p / 256) (by omega))
      have HD2 := Lib.hid (lawDig (p % 256).toNat (p % 256).toNat (Nat.le_refl _) (by omega) (p % 256) (by omega))
      obtain ⟨P, hP⟩ : ∃ P, preT m = P := ⟨_, rfl⟩
      obtain ⟨Q, hQ⟩ : ∃ Q, Lib.decDigits (p / 256).toNat = Q := ⟨_, rfl⟩
      obtain ⟨R, hR⟩ : ∃ R, Lib.decDigits (p % 256).toNat = R := ⟨_, rfl⟩
      rw [hP] at htp hpl ⊢
      rw [hQ] at htp hil1 HD1
      rw [hR] at htp hil2 HD2
      have hpl' : P.length ≤ 88 := by omega
      have e1 := dg_app P Q
      have e2 := comma_app (P ++ Q)
      have e3 : strB (P ++ (Q ++ [44])) ++ strB R = strB TX := by rw [dg_app, htp]; simp
      have hpq : (P ++ Q).length ≤ 109 := by rw [List.length_append]; omega
      have hpq2 : (P ++ (Q ++ [44])).length ≤ 110 := by rw [List.length_append, List.length_append]; simp only [List.length_cons, List.length_nil]; omega
      rw [HA4.out] at HBA
      have c0 : wr.cell? ⟨ga, 0, none⟩ = some (.int .i64 (h0 % 256)) := HBA.out.cell 0
      have c1 : wr.cell? ⟨ga, 1, none⟩ = some (.int .i64 (h1 % 256)) := HBA.out.cell 1
      have c2 : wr.cell? ⟨ga, 2, none⟩ = some (.int .i64 (h2 % 256)) := HBA.out.cell 2
      have c3 : wr.cell? ⟨ga, 3, none⟩ = some (.int .i64 (h3 % 256)) := HBA.out.cell 3
      have c4 : wr.cell? ⟨ga, 4, none⟩ = some (.int .i64 p) := HBA.out.cell 4
      have HT := Lib.hid (HTC.out wr (HL.out.kept0 HK.out).p)
      clear htp hP hQ hR htk hpl
      go_wp2_with fail
      refine (HD1.out _).mono ?_
      rintro en _ ⟨rfl, rfl⟩
      go_wp2_with fail
      refine (HD2.out _).mono ?_
      rintro en _ ⟨rfl, rfl⟩
      go_wp2_with fail
      refine HT.out.mono ?_
      rintro en w5 ⟨rfl, hk5⟩
      have HK5 := Lib.hid (HK.out.trans' hk5)
      have HBA5 := Lib.hid (HBA.out.kept0 hk5)
      clear hk5 c0 c1 c2 c3 c4
      go_wp2_with fail
      have hpc := pasv_calls w5 TX (by omega) (HL.out.kept0 HK5.out).m (HL.out.kept0 HK5.out).e
      unfold PasvPost at hpc
      rw [HPS.out] at hpc
      by_cases hp : p = 0
      · rw [if_pos hp, show adR none = .tuple #[.agg #[.int .i64 0, .int .i64 0, .int .i64 0, .int .i64 0, .int .i64 0], .bool false] from rfl] at hpc
        have HPC := Lib.hid hpc
        have HT6 := Lib.hid (HTC.out)
        have tp : ¬ (0 : Int) < p := by omega
        have tp' : decide ((0 : Int) < p) = false := by simp; omega
        clear hpc hp
        refine HPC.out.mono ?_
        rintro en w6 ⟨rfl, hk6⟩
        have HK6 := Lib.hid (HK5.out.trans' hk6)
        have HB6 := Lib.hid (HBA5.out.kept0 hk6)
        have hgl6 := HB6.out.lt
        have c0 : w6.cell? ⟨ga, 0, none⟩ = some (.int .i64 (h0 % 256)) := HB6.out.cell 0
        have c1 : w6.cell? ⟨ga, 1, none⟩ = some (.int .i64 (h1 % 256)) := HB6.out.cell 1
        have c2 : w6.cell? ⟨ga, 2, none⟩ = some (.int .i64 (h2 % 256)) := HB6.out.cell 2
        have c3 : w6.cell? ⟨ga, 3, none⟩ = some (.int .i64 (h3 % 256)) := HB6.out.cell 3
        have c4 : w6.cell? ⟨ga, 4, none⟩ = some (.int .i64 p) := HB6.out.cell 4
        clear hk6
        go_wp2_with fail
        refine (HT6.out _ (HL.out.kept0 (HK6.out.alloc _)).p).mono ?_
        rintro en w7 ⟨rfl, hk7⟩
        have HK7 := Lib.hid ((HK6.out.alloc _).trans' hk7)
        clear hk7
        go_wp2_with fail
        go_ret
        exact ⟨rfl, HK7.out.below⟩
      · rw [if_neg hp, show adR (some ⟨h0 % 256, h1 % 256, h2 % 256, h3 % 256, p⟩) = .tuple #[.agg #[.int .i64 (h0 % 256), .int .i64 (h1 % 256), .int .i64 (h2 % 256), .int .i64 (h3 % 256), .int .i64 p], .bool true] from rfl] at hpc
        have HPC := Lib.hid hpc
        have HT6 := Lib.hid (HTC.out)
        have tp : (0 : Int) < p := by omega
        clear hpc hp
        refine HPC.out.mono ?_
        rintro en w6 ⟨rfl, hk6⟩
        have HK6 := Lib.hid (HK5.out.trans' hk6)
        have HB6 := Lib.hid (HBA5.out.kept0 hk6)
        have hgl6 := HB6.out.lt
        have c0 : w6.cell? ⟨ga, 0, none⟩ = some (.int .i64 (h0 % 256)) := HB6.out.cell 0
        have c1 : w6.cell? ⟨ga, 1, none⟩ = some (.int .i64 (h1 % 256)) := HB6.out.cell 1
        have c2 : w6.cell? ⟨ga, 2, none⟩ = some (.int .i64 (h2 % 256)) := HB6.out.cell 2
        have c3 : w6.cell? ⟨ga, 3, none⟩ = some (.int .i64 (h3 % 256)) := HB6.out.cell 3
        have c4 : w6.cell? ⟨ga, 4, none⟩ = some (.int .i64 p) := HB6.out.cell 4
        clear hk6
        go_wp2_with fail
        have HK7' := Lib.hid (HK6.out.alloc (.cells #[.int .i64 (h0 % 256), .int .i64 (h1 % 256), .int .i64 (h2 % 256), .int .i64 (h3 % 256), .int .i64 p] 29))
        have HB7 := Lib.hid (HB6.out.alloc (.cells #[.int .i64 (h0 % 256), .int .i64 (h1 % 256), .int .i64 (h2 % 256), .int .i64 (h3 % 256), .int .i64 p] 29))
        have HN7 := Lib.hid (Blk.new w6 29 #[.int .i64 (h0 % 256), .int .i64 (h1 % 256), .int .i64 (h2 % 256), .int .i64 (h3 % 256), .int .i64 p])
        generalize w6.alloc (.cells #[.int .i64 (h0 % 256), .int .i64 (h1 % 256), .int .i64 (h2 % 256), .int .i64 (h3 % 256), .int .i64 p] 29) = W7 at *
        obtain ⟨gb, hgb⟩ : ∃ g, w6.heap.size = g := ⟨_, rfl⟩
        rw [hgb] at HN7 ⊢
        clear hgb c0 c1 c2 c3 c4
        refine (HT6.out _ (HL.out.kept0 HK7'.out).p).mono ?_
        rintro en w7 ⟨rfl, hk7⟩
        have HK7 := Lib.hid (HK7'.out.trans' hk7)
        have HB8 := Lib.hid (HB7.out.kept0 hk7)
        have HN8 := Lib.hid (HN7.out.kept0 hk7)
        have c0 : w7.cell? ⟨ga, 0, none⟩ = some (.int .i64 (h0 % 256)) := HB8.out.cell 0
        have c1 : w7.cell? ⟨ga, 1, none⟩ = some (.int .i64 (h1 % 256)) := HB8.out.cell 1
        have c2 : w7.cell? ⟨ga, 2, none⟩ = some (.int .i64 (h2 % 256)) := HB8.out.cell 2
        have c3 : w7.cell? ⟨ga, 3, none⟩ = some (.int .i64 (h3 % 256)) := HB8.out.cell 3
        have c4 : w7.cell? ⟨ga, 4, none⟩ = some (.int .i64 p) := HB8.out.cell 4
        have d0 : w7.cell? ⟨gb, 0, none⟩ = some (.int .i64 (h0 % 256)) := HN8.out.cell 0
        have d1 : w7.cell? ⟨gb, 1, none⟩ = some (.int .i64 (h1 % 256)) := HN8.out.cell 1
        have d2 : w7.cell? ⟨gb, 2, none⟩ = some (.int .i64 (h2 % 256)) := HN8.out.cell 2
        have d3 : w7.cell? ⟨gb, 3, none⟩ = some (.int .i64 (h3 % 256)) := HN8.out.cell 3
        have d4 : w7.cell? ⟨gb, 4, none⟩ = some (.int .i64 p) := HN8.out.cell 4
        clear hk7
        go_wp2_with fail
        go_ret
        exact ⟨rfl, HK7.out.below⟩
theorem addrWrites_walk (W : World) (a0 a1 a2 a3 a4 : Int) (w0 : (Lit.int .i64 a0).wf = true) (w1 : (Lit.int .i64 a1).wf = true) (w2 : (Lit.int .i64 a2).wf = true) (w3 : (Lit.int .i64 a3).wf = true) (w4 : (Lit.int .u16 a4).wf = true) (hL : laidMetH Tryd.prog Rows.addrWritesRow.laid W) (hsh : W.ShapedOpen Tryd.prog) :
    Calls Tryd.prog 6 #[.agg #[.int .i64 a0, .int .i64 a1, .int .i64 a2, .int .i64 a3], .int .u16 a4] W fun en w' => en = .returned (.bool true) ∧ Below W.heap.size W w' := by
  have h4 : 0 ≤ a4 ∧ a4 ≤ 65535 := by simpa [Lit.wf, IntKind.min, IntKind.max, IntKind.signed, IntKind.bits] using w4
  exact writes_law W a0 a1 a2 a3 a4 h4.1 h4.2 (LdT.of hL hsh)
end Go.Proofs.YtlbipnfnimekfaaDoor
