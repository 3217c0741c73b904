/- AddrAll's walk. -/
import Derived.Test.YtlbipnfnimekfaaDoorAddrS
set_option linter.unusedVariables false
set_option linter.unusedSimpArgs false
namespace Go.Proofs.YtlbipnfnimekfaaDoor
open Go.RowKit Go.Shelf

set_option maxHeartbeats 16000000 in
set_option maxRecDepth 100000 in
theorem all_law (w : World) (s : List UInt8) (x0 x1 x2 x3 x4 : Int) (hs : s.length ≤ 140737488351232) (hx : okA ⟨x0, x1, x2, x3, x4⟩) (hL : LdT w) :
    Calls Tryd.prog 7 #[.string (strB s), .agg #[.int .i64 x0, .int .i64 x1, .int .i64 x2, .int .i64 x3, .int .i64 x4]] w fun en w' => en = .returned (.bool true) ∧ Below w.heap.size w w' := by
  have htl : (s.take 200).length ≤ 200 := List.length_take_le _ _
  obtain ⟨a, b, c, d, p, ok, hf⟩ := adR_form (pasvL (s.take 200))
  obtain ⟨a', b', c', d', p', ok', hf'⟩ := adR_form (adE (epsvL (s.take 200)))
  have HF := Lib.hid hf
  have HF' := Lib.hid hf'
  have HX := Lib.hid hx
  have HL := Lib.hid hL
  obtain ⟨S, hS⟩ : ∃ S, s.take 200 = S := ⟨_, rfl⟩
  have HS := Lib.hid hS
  rw [hS] at htl HF HF'
  clear hf hf' hx hL hS
  go_enter Tryd.func7, Tryd.ntmps7
  go_wp2_with fail
  have HK0 := Lib.hid ((Kept.refl w NoB).alloc (.cells #[.int .i64 x0, .int .i64 x1, .int .i64 x2, .int .i64 x3, .int .i64 x4] 29))
  have HX0 := Lib.hid (Blk.new w 29 #[.int .i64 x0, .int .i64 x1, .int .i64 x2, .int .i64 x3, .int .i64 x4])
  generalize w.alloc (.cells #[.int .i64 x0, .int .i64 x1, .int .i64 x2, .int .i64 x3, .int .i64 x4] 29) = W0 at *
  obtain ⟨gx, hgx⟩ : ∃ g, w.heap.size = g := ⟨_, rfl⟩
  have HGX := Lib.hid hgx
  rw [hgx] at HX0 ⊢
  clear hgx
  refine (shown_calls W0 (HL.out.kept0 HK0.out)).mono ?_
  rintro en w1 ⟨rfl, hk⟩
  have HK1 := Lib.hid (HK0.out.trans' hk)
  have HX1 := Lib.hid (HX0.out.kept0 hk)
  clear hk
  go_wp2_with fail
  refine (short_calls w1 s hs).mono ?_
  rw [HS.out]
  rintro en w1 ⟨rfl, rfl⟩
  go_wp2_with fail
  have hc := pasv_calls w1 S (by omega) (HL.out.kept0 HK1.out).m (HL.out.kept0 HK1.out).e
  unfold PasvPost at hc
  rw [HF.out] at hc
  refine hc.mono ?_
  clear hc
  rintro en v1 ⟨rfl, hk⟩
  have HKv := Lib.hid (HK1.out.trans' hk)
  have HXv := Lib.hid (HX1.out.kept0 hk)
  clear hk
  go_wp2_with fail
  have HK2 := Lib.hid (HKv.out.alloc (.cells #[.int .i64 a, .int .i64 b, .int .i64 c, .int .i64 d, .int .i64 p] 29))
  have HA2 := Lib.hid (Blk.new v1 29 #[.int .i64 a, .int .i64 b, .int .i64 c, .int .i64 d, .int .i64 p])
  have HX2 := Lib.hid (HXv.out.alloc (.cells #[.int .i64 a, .int .i64 b, .int .i64 c, .int .i64 d, .int .i64 p] 29))
  generalize v1.alloc (.cells #[.int .i64 a, .int .i64 b, .int .i64 c, .int .i64 d, .int .i64 p] 29) = W2 at *
  obtain ⟨ga, hg⟩ : ∃ g, v1.heap.size = g := ⟨_, rfl⟩
  rw [hg] at HA2 ⊢
  clear hg HKv HXv
  have hc := refPasv_calls W2 S (by omega)
  unfold PasvPost at hc
  rw [HF.out] at hc
  refine hc.mono ?_
  clear hc
  rintro en v2 ⟨rfl, hk⟩
  have HKv := Lib.hid (HK2.out.trans' hk)
  have HXv := Lib.hid (HX2.out.kept0 hk)
  have HAv := Lib.hid (HA2.out.kept0 hk)
  clear hk
  go_wp2_with fail
  have HK3 := Lib.hid (HKv.out.alloc (.cells #[.int .i64 a, .int .i64 b, .int .i64 c, .int .i64 d, .int .i64 p] 29))
  have HB3 := Lib.hid (Blk.new v2 29 #[.int .i64 a, .int .i64 b, .int .i64 c, .int .i64 d, .int .i64 p])
  have HX3 := Lib.hid (HXv.out.alloc (.cells #[.int .i64 a, .int .i64 b, .int .i64 c, .int .i64 d, .int .i64 p] 29))
  have HA3 := Lib.hid (HAv.out.alloc (.cells #[.int .i64 a, .int .i64 b, .int .i64 c, .int .i64 d, .int .i64 p] 29))
  generalize v2.alloc (.cells #[.int .i64 a, .int .i64 b, .int .i64 c, .int .i64 d, .int .i64 p] 29) = W3 at *
  obtain ⟨gb, hg⟩ : ∃ g, v2.heap.size = g := ⟨_, rfl⟩
  rw [hg] at HB3 ⊢
  clear hg HKv HXv HAv
  have hc := epsv_calls W3 S (by omega) (HL.out.kept0 HK3.out).m (HL.out.kept0 HK3.out).e
  unfold EpsvPost at hc
  rw [HF'.out] at hc
  refine hc.mono ?_
  clear hc
  rintro en v3 ⟨rfl, hk⟩
  have HKv := Lib.hid (HK3.out.trans' hk)
  have HXv := Lib.hid (HX3.out.kept0 hk)
  have HAv := Lib.hid (HA3.out.kept0 hk)
  have HBv := Lib.hid (HB3.out.kept0 hk)
  clear hk
  go_wp2_with fail
  have HK4 := Lib.hid (HKv.out.alloc (.cells #[.int .i64 a', .int .i64 b', .int .i64 c', .int .i64 d', .int .i64 p'] 29))
  have HC4 := Lib.hid (Blk.new v3 29 #[.int .i64 a', .int .i64 b', .int .i64 c', .int .i64 d', .int .i64 p'])
  have HX4 := Lib.hid (HXv.out.alloc (.cells #[.int .i64 a', .int .i64 b', .int .i64 c', .int .i64 d', .int .i64 p'] 29))
  have HA4 := Lib.hid (HAv.out.alloc (.cells #[.int .i64 a', .int .i64 b', .int .i64 c', .int .i64 d', .int .i64 p'] 29))
  have HB4 := Lib.hid (HBv.out.alloc (.cells #[.int .i64 a', .int .i64 b', .int .i64 c', .int .i64 d', .int .i64 p'] 29))
  generalize v3.alloc (.cells #[.int .i64 a', .int .i64 b', .int .i64 c', .int .i64 d', .int .i64 p'] 29) = W4 at *
  obtain ⟨gc, hg⟩ : ∃ g, v3.heap.size = g := ⟨_, rfl⟩
  rw [hg] at HC4 ⊢
  clear hg HKv HXv HAv HBv
  have hc := refEpsv_calls W4 S (by omega)
  unfold EpsvPost at hc
  rw [HF'.out] at hc
  refine hc.mono ?_
  clear hc
  rintro en v4 ⟨rfl, hk⟩
  have HKv := Lib.hid (HK4.out.trans' hk)
  have HXv := Lib.hid (HX4.out.kept0 hk)
  have HAv := Lib.hid (HA4.out.kept0 hk)
  have HBv := Lib.hid (HB4.out.kept0 hk)
  have HCv := Lib.hid (HC4.out.kept0 hk)
  clear hk
  go_wp2_with fail
  have HK5 := Lib.hid (HKv.out.alloc (.cells #[.int .i64 a', .int .i64 b', .int .i64 c', .int .i64 d', .int .i64 p'] 29))
  have HD5 := Lib.hid (Blk.new v4 29 #[.int .i64 a', .int .i64 b', .int .i64 c', .int .i64 d', .int .i64 p'])
  have HX5 := Lib.hid (HXv.out.alloc (.cells #[.int .i64 a', .int .i64 b', .int .i64 c', .int .i64 d', .int .i64 p'] 29))
  have HA5 := Lib.hid (HAv.out.alloc (.cells #[.int .i64 a', .int .i64 b', .int .i64 c', .int .i64 d', .int .i64 p'] 29))
  have HB5 := Lib.hid (HBv.out.alloc (.cells #[.int .i64 a', .int .i64 b', .int .i64 c', .int .i64 d', .int .i64 p'] 29))
  have HC5 := Lib.hid (HCv.out.alloc (.cells #[.int .i64 a', .int .i64 b', .int .i64 c', .int .i64 d', .int .i64 p'] 29))
  generalize v4.alloc (.cells #[.int .i64 a', .int .i64 b', .int .i64 c', .int .i64 d', .int .i64 p'] 29) = W5 at *
  obtain ⟨gd, hg⟩ : ∃ g, v4.heap.size = g := ⟨_, rfl⟩
  rw [hg] at HD5 ⊢
  clear hg HKv HXv HAv HBv HCv
  have qx0 : W5.cell? ⟨gx, 0, none⟩ = some (.int .i64 x0) := HX5.out.cell 0
  have qx1 : W5.cell? ⟨gx, 1, none⟩ = some (.int .i64 x1) := HX5.out.cell 1
  have qx2 : W5.cell? ⟨gx, 2, none⟩ = some (.int .i64 x2) := HX5.out.cell 2
  have qx3 : W5.cell? ⟨gx, 3, none⟩ = some (.int .i64 x3) := HX5.out.cell 3
  have qx4 : W5.cell? ⟨gx, 4, none⟩ = some (.int .i64 x4) := HX5.out.cell 4
  have qa0 : W5.cell? ⟨ga, 0, none⟩ = some (.int .i64 a) := HA5.out.cell 0
  have qa1 : W5.cell? ⟨ga, 1, none⟩ = some (.int .i64 b) := HA5.out.cell 1
  have qa2 : W5.cell? ⟨ga, 2, none⟩ = some (.int .i64 c) := HA5.out.cell 2
  have qa3 : W5.cell? ⟨ga, 3, none⟩ = some (.int .i64 d) := HA5.out.cell 3
  have qa4 : W5.cell? ⟨ga, 4, none⟩ = some (.int .i64 p) := HA5.out.cell 4
  have qb0 : W5.cell? ⟨gb, 0, none⟩ = some (.int .i64 a) := HB5.out.cell 0
  have qb1 : W5.cell? ⟨gb, 1, none⟩ = some (.int .i64 b) := HB5.out.cell 1
  have qb2 : W5.cell? ⟨gb, 2, none⟩ = some (.int .i64 c) := HB5.out.cell 2
  have qb3 : W5.cell? ⟨gb, 3, none⟩ = some (.int .i64 d) := HB5.out.cell 3
  have qb4 : W5.cell? ⟨gb, 4, none⟩ = some (.int .i64 p) := HB5.out.cell 4
  have qc0 : W5.cell? ⟨gc, 0, none⟩ = some (.int .i64 a') := HC5.out.cell 0
  have qc1 : W5.cell? ⟨gc, 1, none⟩ = some (.int .i64 b') := HC5.out.cell 1
  have qc2 : W5.cell? ⟨gc, 2, none⟩ = some (.int .i64 c') := HC5.out.cell 2
  have qc3 : W5.cell? ⟨gc, 3, none⟩ = some (.int .i64 d') := HC5.out.cell 3
  have qc4 : W5.cell? ⟨gc, 4, none⟩ = some (.int .i64 p') := HC5.out.cell 4
  have qd0 : W5.cell? ⟨gd, 0, none⟩ = some (.int .i64 a') := HD5.out.cell 0
  have qd1 : W5.cell? ⟨gd, 1, none⟩ = some (.int .i64 b') := HD5.out.cell 1
  have qd2 : W5.cell? ⟨gd, 2, none⟩ = some (.int .i64 c') := HD5.out.cell 2
  have qd3 : W5.cell? ⟨gd, 3, none⟩ = some (.int .i64 d') := HD5.out.cell 3
  have qd4 : W5.cell? ⟨gd, 4, none⟩ = some (.int .i64 p') := HD5.out.cell 4
  have e1 : (ok == ok) = true := by simp
  have e2 : (ok' == ok') = true := by simp
  go_region_held3 (fun w' => w'.cell? ⟨gx, 0, none⟩ = some (.int .i64 x0) ∧ w'.cell? ⟨gx, 1, none⟩ = some (.int .i64 x1) ∧ w'.cell? ⟨gx, 2, none⟩ = some (.int .i64 x2) ∧ w'.cell? ⟨gx, 3, none⟩ = some (.int .i64 x3) ∧ w'.cell? ⟨gx, 4, none⟩ = some (.int .i64 x4) ∧ w'.cell? ⟨ga, 0, none⟩ = some (.int .i64 a) ∧ w'.cell? ⟨ga, 1, none⟩ = some (.int .i64 b) ∧ w'.cell? ⟨ga, 2, none⟩ = some (.int .i64 c) ∧ w'.cell? ⟨ga, 3, none⟩ = some (.int .i64 d) ∧ w'.cell? ⟨ga, 4, none⟩ = some (.int .i64 p) ∧ w'.cell? ⟨gb, 0, none⟩ = some (.int .i64 a) ∧ w'.cell? ⟨gb, 1, none⟩ = some (.int .i64 b) ∧ w'.cell? ⟨gb, 2, none⟩ = some (.int .i64 c) ∧ w'.cell? ⟨gb, 3, none⟩ = some (.int .i64 d) ∧ w'.cell? ⟨gb, 4, none⟩ = some (.int .i64 p) ∧ w'.cell? ⟨gc, 0, none⟩ = some (.int .i64 a') ∧ w'.cell? ⟨gc, 1, none⟩ = some (.int .i64 b') ∧ w'.cell? ⟨gc, 2, none⟩ = some (.int .i64 c') ∧ w'.cell? ⟨gc, 3, none⟩ = some (.int .i64 d') ∧ w'.cell? ⟨gc, 4, none⟩ = some (.int .i64 p') ∧ w'.cell? ⟨gd, 0, none⟩ = some (.int .i64 a') ∧ w'.cell? ⟨gd, 1, none⟩ = some (.int .i64 b') ∧ w'.cell? ⟨gd, 2, none⟩ = some (.int .i64 c') ∧ w'.cell? ⟨gd, 3, none⟩ = some (.int .i64 d') ∧ w'.cell? ⟨gd, 4, none⟩ = some (.int .i64 p') ∧ Kept w w' NoB) (first | exact ⟨qx0, qx1, qx2, qx3, qx4, qa0, qa1, qa2, qa3, qa4, qb0, qb1, qb2, qb3, qb4, qc0, qc1, qc2, qc3, qc4, qd0, qd1, qd2, qd3, qd4, HK5.out.drew⟩ | exact ⟨hkq.cell qx0 (fun x => x), hkq.cell qx1 (fun x => x), hkq.cell qx2 (fun x => x), hkq.cell qx3 (fun x => x), hkq.cell qx4 (fun x => x), hkq.cell qa0 (fun x => x), hkq.cell qa1 (fun x => x), hkq.cell qa2 (fun x => x), hkq.cell qa3 (fun x => x), hkq.cell qa4 (fun x => x), hkq.cell qb0 (fun x => x), hkq.cell qb1 (fun x => x), hkq.cell qb2 (fun x => x), hkq.cell qb3 (fun x => x), hkq.cell qb4 (fun x => x), hkq.cell qc0 (fun x => x), hkq.cell qc1 (fun x => x), hkq.cell qc2 (fun x => x), hkq.cell qc3 (fun x => x), hkq.cell qc4 (fun x => x), hkq.cell qd0 (fun x => x), hkq.cell qd1 (fun x => x), hkq.cell qd2 (fun x => x), hkq.cell qd3 (fun x => x), hkq.cell qd4 (fun x => x), HK5.out.drew.trans' hkq⟩ | exact ⟨hku.cell (hkq.cell qx0 (fun x => x)) (fun x => x), hku.cell (hkq.cell qx1 (fun x => x)) (fun x => x), hku.cell (hkq.cell qx2 (fun x => x)) (fun x => x), hku.cell (hkq.cell qx3 (fun x => x)) (fun x => x), hku.cell (hkq.cell qx4 (fun x => x)) (fun x => x), hku.cell (hkq.cell qa0 (fun x => x)) (fun x => x), hku.cell (hkq.cell qa1 (fun x => x)) (fun x => x), hku.cell (hkq.cell qa2 (fun x => x)) (fun x => x), hku.cell (hkq.cell qa3 (fun x => x)) (fun x => x), hku.cell (hkq.cell qa4 (fun x => x)) (fun x => x), hku.cell (hkq.cell qb0 (fun x => x)) (fun x => x), hku.cell (hkq.cell qb1 (fun x => x)) (fun x => x), hku.cell (hkq.cell qb2 (fun x => x)) (fun x => x), hku.cell (hkq.cell qb3 (fun x => x)) (fun x => x), hku.cell (hkq.cell qb4 (fun x => x)) (fun x => x), hku.cell (hkq.cell qc0 (fun x => x)) (fun x => x), hku.cell (hkq.cell qc1 (fun x => x)) (fun x => x), hku.cell (hkq.cell qc2 (fun x => x)) (fun x => x), hku.cell (hkq.cell qc3 (fun x => x)) (fun x => x), hku.cell (hkq.cell qc4 (fun x => x)) (fun x => x), hku.cell (hkq.cell qd0 (fun x => x)) (fun x => x), hku.cell (hkq.cell qd1 (fun x => x)) (fun x => x), hku.cell (hkq.cell qd2 (fun x => x)) (fun x => x), hku.cell (hkq.cell qd3 (fun x => x)) (fun x => x), hku.cell (hkq.cell qd4 (fun x => x)) (fun x => x), (HK5.out.drew.trans' hkq).trans' hku⟩) (first
    | (go_at_call 13; have ht := text_calls W5.drew ⟨x0, x1, x2, x3, x4⟩ HX.out (HL.out.kept0 HK5.out.drew).p; unfold adV at ht; refine ht.mono ?_; clear ht; rintro en wq ⟨rfl, hkq⟩)
    | (go_at_call 17; have ht := refText_calls wq ⟨x0, x1, x2, x3, x4⟩ HX.out; unfold adV at ht; refine ht.mono ?_; clear ht; rintro en wu ⟨rfl, hku⟩))
  all_goals
    go_wp2_with fail
    go_ret
    exact ⟨rfl, ((HK5.out.drew.trans' hkq).trans' hku).below⟩
theorem wf_ok {n : Int} (h : (Lit.int .i64 n).wf = true) : okI n := by simpa [Lit.wf, IntKind.min, IntKind.max, IntKind.signed, IntKind.bits, okI] using h
theorem addrAll_walk (W : World) (a0 : ByteArray) (a1 a2 a3 a4 a5 : Int) (w0 : a0.size ≤ 140737488351232) (w1 : (Lit.int .i64 a1).wf = true) (w2 : (Lit.int .i64 a2).wf = true) (w3 : (Lit.int .i64 a3).wf = true) (w4 : (Lit.int .i64 a4).wf = true) (w5 : (Lit.int .i64 a5).wf = true) (hL : laidMetH Tryd.prog Rows.addrAllRow.laid W) (hsh : W.ShapedOpen Tryd.prog) :
    Calls Tryd.prog 7 #[.string a0, .agg #[.int .i64 a1, .int .i64 a2, .int .i64 a3, .int .i64 a4, .int .i64 a5]] W fun en w' => en = .returned (.bool true) ∧ Below W.heap.size W w' := by
  have h := all_law W a0.data.toList a1 a2 a3 a4 a5 (by rw [Array.length_toList]; exact w0) ⟨wf_ok w1, wf_ok w2, wf_ok w3, wf_ok w4, wf_ok w5⟩ (LdT.of hL hsh)
  rwa [strB_data] at h
end Go.Proofs.YtlbipnfnimekfaaDoor
