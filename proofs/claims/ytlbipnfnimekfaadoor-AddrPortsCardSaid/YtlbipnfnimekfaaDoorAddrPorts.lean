/- AddrPorts' walk. -/
import Derived.Test.YtlbipnfnimekfaaDoorAddrX
import Derived.Test.YtlbipnfnimekfaaDoorAddrAll
set_option linter.unusedVariables false
set_option linter.unusedSimpArgs false
namespace Go.Proofs.YtlbipnfnimekfaaDoor
open Go.RowKit Go.Shelf

/-! ### Plain -/
theorem drop40 {A T : List UInt8} (hA : ∀ c ∈ A, c ≠ 40) : (A ++ 40 :: T).dropWhile (fun c => c != 40) = 40 :: T := by
  induction A with
  | nil => rfl
  | cons x A ih =>
    rw [List.cons_append, List.dropWhile_cons_of_pos (by simpa using hA x (by simp))]
    exact ih fun c hc => hA c (by simp [hc])
theorem epsv_at {A T : List UInt8} (hA : ∀ c ∈ A, c ≠ 40) : epsvL (A ++ 40 :: T) = epsvT T := by
  unfold epsvL
  rw [drop40 hA]
theorem dec_len5 {u : Nat} (h : u ≤ 65535) : (Lib.decDigits u).length ≤ 5 := by
  rw [Lib.decDigits_length]
  by_cases h1 : u < 10
  · rw [Lib.nDigits_small h1]; omega
  · rw [Lib.nDigits_big h1]
    by_cases h2 : u / 10 < 10
    · rw [Lib.nDigits_small h2]; omega
    · rw [Lib.nDigits_big h2]
      by_cases h3 : u / 10 / 10 < 10
      · rw [Lib.nDigits_small h3]; omega
      · rw [Lib.nDigits_big h3]
        by_cases h4 : u / 10 / 10 / 10 < 10
        · rw [Lib.nDigits_small h4]; omega
        · rw [Lib.nDigits_big h4, Lib.nDigits_small (by omega)]; omega
theorem numD_dec (u : Nat) : numD (Lib.decDigits u) 65535 = if u ≤ 65535 then some (u : Int) else none := by
  have h := dec_isDig u
  unfold numD
  rw [valF_dec u u (Nat.le_refl u)]
  by_cases hu : u ≤ 65535
  · rw [if_pos ⟨h.1, by have := dec_len5 hu; omega, h.2, by omega⟩, if_pos hu]
  · rw [if_neg (fun q => by have := q.2.2.2; omega), if_neg hu]
theorem epsvT_cons (d d2 d3 : UInt8) (r : List UInt8) : epsvT (d :: d2 :: d3 :: r) = if 33 ≤ d.toNat ∧ d.toNat ≤ 126 ∧ digC d = false ∧ d2 = d ∧ d3 = d then portE d r else none := rfl
/-- Is a port within a sign told? -/
def fineP (d u : Nat) : Bool := decide (33 ≤ d ∧ d ≤ 126 ∧ (d < 48 ∨ 57 < d) ∧ 1 ≤ u ∧ u ≤ 65535)
theorem port_told (d : UInt8) (u : Nat) (r : List UInt8) : epsvT (d :: d :: d :: (Lib.decDigits u ++ d :: 41 :: r)) = if fineP d.toNat u = true then some (u : Int) else none := by
  rw [epsvT_cons]
  unfold fineP
  cases hd : digC d with
  | true =>
    have := digC_bd hd
    rw [if_neg (by simp), if_neg (by simp; omega)]
  | false =>
    have hn : ¬ (48 ≤ d.toNat ∧ d.toNat ≤ 57) := by simpa [digC] using hd
    obtain ⟨h1, h2⟩ := take_dig (d := Lib.decDigits u) (r := d :: 41 :: r) (dec_isDig u) fun c t h => by injection h with h _; rw [← h]; exact hd
    by_cases hr : 33 ≤ d.toNat ∧ d.toNat ≤ 126
    · rw [if_pos ⟨hr.1, hr.2, rfl, rfl, rfl⟩]
      unfold portE
      rw [h1, h2]
      simp only [and_self, if_true]
      rw [numD_dec]
      by_cases hu : u ≤ 65535
      · rw [if_pos hu]
        simp only
        by_cases h0 : u = 0
        · subst h0
          rw [if_neg (by simp), if_neg (by simp)]
        · rw [if_pos ⟨dec_len5 hu, by omega⟩, if_pos (by simp; omega)]
      · rw [if_neg hu, if_neg (by simp; omega)]
    · rw [if_neg (fun q => hr ⟨q.1, q.2.1⟩), if_neg (by simp; omega)]
theorem port_open (d : UInt8) (u : Nat) : epsvT (d :: d :: d :: (Lib.decDigits u ++ [d])) = none := by
  rw [epsvT_cons]
  cases hd : digC d with
  | true => rw [if_neg (by simp)]
  | false =>
    obtain ⟨h1, h2⟩ := take_dig (d := Lib.decDigits u) (r := [d]) (dec_isDig u) fun c t h => by injection h with h _; rw [← h]; exact hd
    split
    · unfold portE
      rw [h2]
    · rfl
theorem port_two (d : UInt8) (u : Nat) (r : List UInt8) : epsvT (d :: d :: (Lib.decDigits u ++ r)) = none := by
  obtain ⟨h1, h2⟩ := dec_isDig u
  cases hD : Lib.decDigits u with
  | nil => exact absurd hD h1
  | cons c D =>
    rw [hD, List.all_cons, Bool.and_eq_true] at h2
    rw [List.cons_append, epsvT_cons, if_neg]
    rintro ⟨_, _, h3, _, h5⟩
    rw [← h5, h2.1] at h3
    cases h3
def not40 (c : UInt8) : Bool := c != 40
theorem keep40 (s : List UInt8) : ∀ c ∈ keepL not40 s, c ≠ 40 := by
  intro c hc
  have := (List.mem_filter.1 hc).2
  simpa [not40] using this
theorem adE_form (f : Bool) (u : Nat) : ∃ q : Int, adR (adE (if f = true then some (u : Int) else none)) = .tuple #[.agg #[.int .i64 0, .int .i64 0, .int .i64 0, .int .i64 0, .int .i64 q], .bool f] ∧ (f = true → q = u) := by
  cases f with
  | true => exact ⟨u, rfl, fun _ => rfl⟩
  | false => exact ⟨0, rfl, fun h => by cases h⟩
set_option maxHeartbeats 8000000 in
set_option maxRecDepth 100000 in
theorem ports_law (w : World) (n : Int) (d : Nat) (s : List UInt8) (hd : d < 256) (hs : s.length ≤ 140737488351232) (hL : LdT w) :
    Calls Tryd.prog 4 #[.int .i64 n, .int .u8 (d : Int), .string (strB s)] w fun en w' => en = .returned (.bool true) ∧ Below w.heap.size w w' := by
  obtain ⟨u, hu⟩ : ∃ u : Nat, (n % 262144).toNat = u := ⟨_, rfl⟩
  have hun : n % 262144 = (u : Int) := by omega
  have hul : u < 262144 := by omega
  have hmk := mask18 n
  rw [hun] at hmk
  obtain ⟨y, hy⟩ : ∃ y, UInt8.ofNat d = y := ⟨_, rfl⟩
  have hyd : y.toNat = d := by rw [← hy, UInt8.toNat_ofNat']; exact Nat.mod_eq_of_lt hd
  have hA := keep40 s
  have hAl := keep_len not40 s
  obtain ⟨B, hB⟩ : ∃ B, strB s = B := ⟨_, rfl⟩
  have hsz : B.size = s.length := by rw [← hB, strB_size]
  have hget : ∀ j, (h : j < s.length) → ∀ h' : j < B.size, (B[j]'h').toNat = s[j].toNat := fun j h h' => by subst hB; rw [strB_getI]
  have hcut := cut_one s
  rw [hB] at hcut ⊢
  obtain ⟨m, hm⟩ : ∃ m, min s.length 200 = m := ⟨_, rfl⟩
  have htk : s.take 200 = s.take m := by
    rw [← hm]
    rcases Nat.le_total s.length 200 with h | h
    · rw [Nat.min_eq_left h, List.take_length, List.take_of_length_le h]
    · rw [Nat.min_eq_right h]
  have hml : m ≤ s.length := by omega
  have hm2 : m ≤ 200 := by omega
  have hm3 : m = s.length ∨ m = 200 := by omega
  have HGET := Lib.hid hget
  have HCUT := Lib.hid hcut
  have HTK := Lib.hid htk
  have HM3 := Lib.hid hm3
  have HL := Lib.hid hL
  have HY := Lib.hid hy
  have HYD := Lib.hid hyd
  have HA := Lib.hid hA
  obtain ⟨k, hk⟩ : ∃ k, s.length = k := ⟨_, rfl⟩
  rw [hk] at hsz hml hs
  have HN := Lib.hid hk
  clear hget hcut htk hm hm3 hk hB hL hy hyd hA hu hun
  go_enter Tryd.func4, Tryd.ntmps4
  go_wp2_with fail
  refine (shown_calls w HL.out).mono ?_
  rintro en w1 ⟨rfl, hk1⟩
  have HK1 := Lib.hid hk1
  clear hk1
  go_wp2_with fail
  go_loopg [8, 9] m (fun gk v8 v9 wr => BaS w1 not40 s m gk v8 v9 wr)
  case atStart => exact ⟨0, Nat.zero_le _, rfl, rfl, rfl, rfl⟩
  case round =>
    obtain ⟨i, hi, hgk, rfl, rfl, rfl⟩ := hrel
    have HG := Lib.hid hgk
    clear hgk
    rcases Nat.lt_or_ge i m with hlt | hge
    · have hin : i < s.length := by rw [HN.out]; omega
      have hit : i < k := by omega
      have y0 : i < B.size := by rw [hsz]; exact hit
      have t0 : (i : Int) < (k : Int) := by omega
      have t2 : (i : Int) < 200 := by omega
      have hmore := filter_more not40 hin
      have hfl : ((s.take i).filter not40).length ≤ 200 := Nat.le_trans (List.length_filter_le _ _) (by rw [List.length_take]; omega)
      have hct := HCUT.out i hin
      obtain ⟨x, hx⟩ : ∃ x : Nat, s[i].toNat = x := ⟨_, rfl⟩
      have i0 : (B[i]'y0).toNat = x := (HGET.out i hin y0).trans hx
      have hdx : not40 s[i] = decide (x ≠ 40) := by
        rw [Bool.eq_iff_iff]
        simp only [not40, bne_iff_ne, ne_eq, decide_eq_true_eq]
        rw [← hx]
        exact ⟨fun h e => h (UInt8.toNat_inj.1 (by rw [e]; rfl)), fun h e => h (by rw [e]; rfl)⟩
      rw [hdx] at hmore
      have tc : ((i : Int) + 1).toNat = i + 1 := by omega
      obtain ⟨F, hF⟩ : ∃ F, (s.take i).filter not40 = F := ⟨_, rfl⟩
      rw [hF] at hfl hmore ⊢
      have e2 := dg_app F [s[i]]
      obtain ⟨z, hz⟩ : ∃ z, s[i] = z := ⟨_, rfl⟩
      rw [hz] at hct e2 hmore
      have hF1 : (F ++ [z]).length ≤ 201 := by rw [List.length_append]; simp only [List.length_cons, List.length_nil]; omega
      clear hx hdx hF hz hin
      by_cases h40 : x = 40
      · have t3 : ((x : Int) != 40) = false := by simp; omega
        have t3' : ((x : Int) == 40) = true := by simp; omega
        have HMO : Hid ((s.take (i + 1)).filter not40 = F) := Lib.hid (by rw [hmore, if_neg (by simp [h40])]; simp)
        clear hmore h40
        go_wp2_with fail
        go_roundg (m - (i + 1))
        case measure => have := HG.out; omega
        case rel => exact ⟨i + 1, hlt, rfl, by go_num, by rw [HMO.out], rfl⟩
      · have t3 : ((x : Int) != 40) = true := by simp; omega
        have t3' : ((x : Int) == 40) = false := by simp; omega
        have HMO : Hid ((s.take (i + 1)).filter not40 = F ++ [z]) := Lib.hid (by rw [hmore, if_pos (by simp [h40])])
        clear hmore
        go_wp2_with fail
        go_roundg (m - (i + 1))
        case measure => have := HG.out; omega
        case rel => exact ⟨i + 1, hlt, rfl, by go_num, by rw [HMO.out], rfl⟩
    · obtain rfl : i = m := by omega
      have hres : (s.take i).filter not40 = keepL not40 s := by unfold keepL; rw [HTK.out]
      rw [hres]
      have hA := HA.out
      have hyd := HYD.out
      have hy := HY.out
      have p1 := epsv_at (T := y :: y :: y :: (Lib.decDigits u ++ y :: 41 :: [32, 103, 111])) hA
      rw [port_told, hyd] at p1
      have p2 := epsv_at (T := y :: y :: y :: (Lib.decDigits u ++ [y])) hA
      rw [port_open] at p2
      have p3 := epsv_at (T := y :: y :: (Lib.decDigits u ++ [y, 41])) hA
      rw [port_two] at p3
      have hdl : (Lib.decDigits u).length ≤ 20 := dec_len (by omega)
      have hDG := fun W => lawDig u u (Nat.le_refl _) (by omega) (u : Int) rfl W
      obtain ⟨A, hAe⟩ : ∃ a, keepL not40 s = a := ⟨_, rfl⟩
      obtain ⟨D, hDe⟩ : ∃ a, Lib.decDigits u = a := ⟨_, rfl⟩
      rw [hAe] at hAl p1 p2 p3 ⊢
      rw [hDe] at p1 p2 p3 hdl hDG
      obtain ⟨f, hf⟩ : ∃ f, fineP d u = f := ⟨_, rfl⟩
      rw [hf] at p1
      obtain ⟨q, hq1, hq2⟩ := adE_form f u
      obtain ⟨S1, hS1⟩ : ∃ a, A ++ 40 :: y :: y :: y :: (D ++ y :: 41 :: [32, 103, 111]) = a := ⟨_, rfl⟩
      obtain ⟨S2, hS2⟩ : ∃ a, A ++ 40 :: y :: y :: y :: (D ++ [y]) = a := ⟨_, rfl⟩
      obtain ⟨S3, hS3⟩ : ∃ a, A ++ 40 :: y :: y :: (D ++ [y, 41]) = a := ⟨_, rfl⟩
      have g1 : (⟨#[40]⟩ : ByteArray) = strB [40] := rfl
      have e1 : strB A ++ strB [40] = strB (A ++ [40]) := dg_app _ _
      have e2 : strB (A ++ [40]) ++ strB [y] = strB (A ++ [40, y]) := by rw [dg_app]; simp
      have e3 : strB (A ++ [40, y]) ++ strB [y] = strB (A ++ [40, y, y]) := by rw [dg_app]; simp
      have e4 : strB (A ++ [40, y, y]) ++ strB [y] = strB (A ++ [40, y, y, y]) := by rw [dg_app]; simp
      have e5 : strB (A ++ [40, y, y, y]) ++ strB D = strB (A ++ 40 :: y :: y :: y :: D) := by rw [dg_app]; simp
      have e6 : strB (A ++ 40 :: y :: y :: y :: D) ++ strB [y] = strB S2 := by rw [dg_app, ← hS2]; simp
      have e7 : strB S2 ++ strB [41, 32, 103, 111] = strB S1 := by rw [dg_app, ← hS1, ← hS2]; simp
      have e8 : strB (A ++ [40, y, y]) ++ strB D = strB (A ++ 40 :: y :: y :: D) := by rw [dg_app]; simp
      have e9 : strB (A ++ 40 :: y :: y :: D) ++ strB [y] = strB (A ++ 40 :: y :: y :: (D ++ [y])) := by rw [dg_app]; simp
      have e10 : strB (A ++ 40 :: y :: y :: (D ++ [y])) ++ strB [41] = strB S3 := by rw [dg_app, ← hS3]; simp
      obtain ⟨B1, hB1⟩ : ∃ b, strB (A ++ [40]) = b := ⟨_, rfl⟩
      have sB1 : B1.size ≤ 300 := by rw [← hB1, strB_size]; simp; omega
      obtain ⟨B2, hB2⟩ : ∃ b, strB (A ++ [40, y]) = b := ⟨_, rfl⟩
      have sB2 : B2.size ≤ 300 := by rw [← hB2, strB_size]; simp; omega
      obtain ⟨B3, hB3⟩ : ∃ b, strB (A ++ [40, y, y]) = b := ⟨_, rfl⟩
      have sB3 : B3.size ≤ 300 := by rw [← hB3, strB_size]; simp; omega
      obtain ⟨B4, hB4⟩ : ∃ b, strB (A ++ [40, y, y, y]) = b := ⟨_, rfl⟩
      have sB4 : B4.size ≤ 300 := by rw [← hB4, strB_size]; simp; omega
      obtain ⟨B5, hB5⟩ : ∃ b, strB (A ++ 40 :: y :: y :: y :: D) = b := ⟨_, rfl⟩
      have sB5 : B5.size ≤ 300 := by rw [← hB5, strB_size]; simp; omega
      obtain ⟨Bq, hBq⟩ : ∃ b, strB (A ++ 40 :: y :: y :: D) = b := ⟨_, rfl⟩
      have sBq : Bq.size ≤ 300 := by rw [← hBq, strB_size]; simp; omega
      obtain ⟨B9, hB9⟩ : ∃ b, strB (A ++ 40 :: y :: y :: (D ++ [y])) = b := ⟨_, rfl⟩
      have sB9 : B9.size ≤ 300 := by rw [← hB9, strB_size]; simp; omega
      try rw [hB1] at e1
      try rw [hB1] at e2
      try rw [hB2] at e2
      try rw [hB2] at e3
      try rw [hB3] at e3
      try rw [hB3] at e4
      try rw [hB4] at e4
      try rw [hB4] at e5
      try rw [hB5] at e5
      try rw [hB5] at e6
      try rw [hB3] at e8
      try rw [hBq] at e8
      try rw [hBq] at e9
      try rw [hB9] at e9
      try rw [hB9] at e10
      obtain ⟨Y, hY⟩ : ∃ b, strB [y] = b := ⟨_, rfl⟩
      have sY : Y.size = 1 := by rw [← hY]; rfl
      obtain ⟨DB, hDB⟩ : ∃ b, strB D = b := ⟨_, rfl⟩
      have sDB : DB.size ≤ 20 := by rw [← hDB, strB_size]; exact hdl
      obtain ⟨AB, hAB⟩ : ∃ b, strB A = b := ⟨_, rfl⟩
      have sAB : AB.size ≤ 200 := by rw [← hAB, strB_size]; exact hAl
      have sS2 : (strB S2).size ≤ 300 := by rw [← hS2, strB_size]; simp; omega
      rw [hAB] at e1 ⊢
      rw [hY] at e2 e3 e4 e6 e9
      rw [hDB] at e5 e8
      simp only [hDB] at hDG
      have hc1 := fun W hm he => epsv_calls W S1 (by rw [← hS1]; simp; omega) hm he
      have hc2 := fun W hm he => epsv_calls W S2 (by rw [← hS2]; simp; omega) hm he
      have hc3 := fun W hm he => epsv_calls W S3 (by rw [← hS3]; simp; omega) hm he
      rw [hS1] at p1
      rw [hS2] at p2
      rw [hS3] at p3
      unfold EpsvPost at hc1 hc2 hc3
      simp only [p1, hq1] at hc1
      simp only [p2, show adR (adE none) = .tuple #[.agg #[.int .i64 0, .int .i64 0, .int .i64 0, .int .i64 0, .int .i64 0], .bool false] from rfl] at hc2
      simp only [p3, show adR (adE none) = .tuple #[.agg #[.int .i64 0, .int .i64 0, .int .i64 0, .int .i64 0, .int .i64 0], .bool false] from rfl] at hc3
      obtain ⟨SB2, hSB2⟩ : ∃ b, strB S2 = b := ⟨_, rfl⟩
      obtain ⟨SB1, hSB1⟩ : ∃ b, strB S1 = b := ⟨_, rfl⟩
      obtain ⟨SB3, hSB3⟩ : ∃ b, strB S3 = b := ⟨_, rfl⟩
      rw [hSB2] at e6 e7 sS2
      rw [hSB1] at e7
      rw [hSB3] at e10
      simp only [hSB1] at hc1
      simp only [hSB2] at hc2
      simp only [hSB3] at hc3
      have e1' : AB ++ (⟨#[40]⟩ : ByteArray) = B1 := e1
      have e7' : SB2 ++ (⟨#[41, 32, 103, 111]⟩ : ByteArray) = SB1 := e7
      have e10' : B9 ++ (⟨#[41]⟩ : ByteArray) = SB3 := e10
      have hcv : (convert 23 9 (.slice (some ⟨w1.heap.size, 0, none⟩) 1 1)).run Tryd.prog (w1.alloc (.cells #[.int .u8 (d : Int)] 5)) = .ok (.string Y) (w1.alloc (.cells #[.int .u8 (d : Int)] 5)) := by
        rw [← hY]
        refine Reads.string (Reads.bytes w1 5 [y] _ ?_ (0, 0)) 23 5 9 Tryd.underlying23 Tryd.underlying5 Tryd.underlying9 1
        simp [b8s, B8, hyd]
      have HC1 := Lib.hid hc1
      have HC2 := Lib.hid hc2
      have HC3 := Lib.hid hc3
      have HDG := Lib.hid hDG
      have HF := Lib.hid hf
      have HQ := Lib.hid hq2
      have h3 := HM3.out
      rw [HN.out] at h3
      clear p1 p2 p3 hc1 hc2 hc3 hDG hf hq1 hq2 hS1 hS2 hS3 hAe hDe hres g1 hA hyd hy hAB hDB hY hSB1 hSB2 hSB3 e1 e7 e10 hB1 hB2 hB3 hB4 hB5 hBq hB9
      cases Nat.lt_or_eq_of_le hml
      case' inl hlt =>
        have t0 : (i : Int) < (k : Int) := by omega
        have t2 : ¬ (i : Int) < 200 := by omega
        have t2' : decide ((i : Int) < 200) = false := by simp; omega
        clear h3
        go_wp2_with fail
      case' inr heq =>
        have t0 : ¬ (i : Int) < (k : Int) := by omega
        have t0' : decide ((i : Int) < (k : Int)) = false := by simp; omega
        have HEQ := Lib.hid heq
        clear h3 heq
        go_wp2_with fail
      all_goals
        have HK2 := Lib.hid (HK1.out.alloc (.cells #[.int .u8 (d : Int)] 5))
        clear hcv
        generalize w1.alloc (.cells #[.int .u8 (d : Int)] 5) = W2 at *
        refine (HDG.out _).mono ?_
        rintro en _ ⟨rfl, rfl⟩
        go_wp2_with fail
        refine (HC1.out W2 (HL.out.kept0 HK2.out).m (HL.out.kept0 HK2.out).e).mono ?_
        rintro en v1 ⟨rfl, hk⟩
        have HKv1 := Lib.hid (HK2.out.trans' hk)
        clear hk
        go_upto_region 12 with (fail)
        have HKYa := Lib.hid (HKv1.out.alloc (.cells #[.int .i64 0, .int .i64 0, .int .i64 0, .int .i64 0, .int .i64 q] 29))
        have HNYa := Lib.hid (Blk.new v1 29 #[.int .i64 0, .int .i64 0, .int .i64 0, .int .i64 0, .int .i64 q])
        generalize v1.alloc (.cells #[.int .i64 0, .int .i64 0, .int .i64 0, .int .i64 0, .int .i64 q] 29) = Ya at *
        obtain ⟨gYa, hg⟩ : ∃ g, v1.heap.size = g := ⟨_, rfl⟩
        rw [hg] at HNYa ⊢
        clear hg
        go_wp2_with fail
        refine (HC2.out Ya (HL.out.kept0 HKYa.out).m (HL.out.kept0 HKYa.out).e).mono ?_
        rintro en v2 ⟨rfl, hk⟩
        have HKv2 := Lib.hid (HKYa.out.trans' hk)
        have HNYav2 := Lib.hid (HNYa.out.kept0 hk)
        clear hk
        go_upto_region 13 with (fail)
        have HKYb := Lib.hid (HKv2.out.alloc (.cells #[.int .i64 0, .int .i64 0, .int .i64 0, .int .i64 0, .int .i64 0] 29))
        have HNYav2Yb := Lib.hid (HNYav2.out.alloc (.cells #[.int .i64 0, .int .i64 0, .int .i64 0, .int .i64 0, .int .i64 0] 29))
        have HNYb := Lib.hid (Blk.new v2 29 #[.int .i64 0, .int .i64 0, .int .i64 0, .int .i64 0, .int .i64 0])
        generalize v2.alloc (.cells #[.int .i64 0, .int .i64 0, .int .i64 0, .int .i64 0, .int .i64 0] 29) = Yb at *
        obtain ⟨gYb, hg⟩ : ∃ g, v2.heap.size = g := ⟨_, rfl⟩
        rw [hg] at HNYb ⊢
        clear hg
        go_wp2_with fail
        refine (HDG.out _).mono ?_
        rintro en _ ⟨rfl, rfl⟩
        go_wp2_with fail
        refine (HC3.out Yb (HL.out.kept0 HKYb.out).m (HL.out.kept0 HKYb.out).e).mono ?_
        rintro en v3 ⟨rfl, hk⟩
        have HKv3 := Lib.hid (HKYb.out.trans' hk)
        have HNYav2Ybv3 := Lib.hid (HNYav2Yb.out.kept0 hk)
        have HNYbv3 := Lib.hid (HNYb.out.kept0 hk)
        clear hk
        go_upto_region 14 with (fail)
        have HKYc := Lib.hid (HKv3.out.alloc (.cells #[.int .i64 0, .int .i64 0, .int .i64 0, .int .i64 0, .int .i64 0] 29))
        have HNYav2Ybv3Yc := Lib.hid (HNYav2Ybv3.out.alloc (.cells #[.int .i64 0, .int .i64 0, .int .i64 0, .int .i64 0, .int .i64 0] 29))
        have HNYbv3Yc := Lib.hid (HNYbv3.out.alloc (.cells #[.int .i64 0, .int .i64 0, .int .i64 0, .int .i64 0, .int .i64 0] 29))
        have HNYc := Lib.hid (Blk.new v3 29 #[.int .i64 0, .int .i64 0, .int .i64 0, .int .i64 0, .int .i64 0])
        generalize v3.alloc (.cells #[.int .i64 0, .int .i64 0, .int .i64 0, .int .i64 0, .int .i64 0] 29) = Yc at *
        obtain ⟨gYc, hg⟩ : ∃ g, v3.heap.size = g := ⟨_, rfl⟩
        rw [hg] at HNYc ⊢
        clear hg
        have hF := HF.out
        have hQ := HQ.out
        have t1u : (0 : Int) ≤ (u : Int) := by omega
        by_cases q1 : d < 33
        · have hfv : f = false := by rw [← hF]; unfold fineP; simp; omega
          subst hfv
          have a1 : decide ((33 : Int) ≤ (d : Int)) = false := by first | omega | (simp; omega)
          have a1' : ¬ (33 : Int) ≤ (d : Int) := by first | omega | (simp; omega)
          clear hF hQ
          go_upto_region 16 with (fail)
          have HKd := Lib.hid (HKYc.out.alloc (.cells #[.int .i64 0, .int .i64 0, .int .i64 0, .int .i64 0, .int .i64 (u : Int)] 29))
          have HAd := Lib.hid (HNYav2Ybv3Yc.out.alloc (.cells #[.int .i64 0, .int .i64 0, .int .i64 0, .int .i64 0, .int .i64 (u : Int)] 29))
          have HNd := Lib.hid (Blk.new Yc 29 #[.int .i64 0, .int .i64 0, .int .i64 0, .int .i64 0, .int .i64 (u : Int)])
          generalize Yc.alloc (.cells #[.int .i64 0, .int .i64 0, .int .i64 0, .int .i64 0, .int .i64 (u : Int)] 29) = Wd at *
          obtain ⟨gd, hg⟩ : ∃ g, Yc.heap.size = g := ⟨_, rfl⟩
          rw [hg] at HNd ⊢
          clear hg
          go_wp2_with fail
          go_ret
          exact ⟨rfl, HKd.out.below⟩
        have a1 : (33 : Int) ≤ (d : Int) := by omega
        by_cases q2 : 126 < d
        · have hfv : f = false := by rw [← hF]; unfold fineP; simp; omega
          subst hfv
          have a2 : decide ((d : Int) ≤ 126) = false := by first | omega | (simp; omega)
          have a2' : ¬ (d : Int) ≤ 126 := by first | omega | (simp; omega)
          clear hF hQ
          go_upto_region 16 with (fail)
          have HKd := Lib.hid (HKYc.out.alloc (.cells #[.int .i64 0, .int .i64 0, .int .i64 0, .int .i64 0, .int .i64 (u : Int)] 29))
          have HAd := Lib.hid (HNYav2Ybv3Yc.out.alloc (.cells #[.int .i64 0, .int .i64 0, .int .i64 0, .int .i64 0, .int .i64 (u : Int)] 29))
          have HNd := Lib.hid (Blk.new Yc 29 #[.int .i64 0, .int .i64 0, .int .i64 0, .int .i64 0, .int .i64 (u : Int)])
          generalize Yc.alloc (.cells #[.int .i64 0, .int .i64 0, .int .i64 0, .int .i64 0, .int .i64 (u : Int)] 29) = Wd at *
          obtain ⟨gd, hg⟩ : ∃ g, Yc.heap.size = g := ⟨_, rfl⟩
          rw [hg] at HNd ⊢
          clear hg
          go_wp2_with fail
          go_ret
          exact ⟨rfl, HKd.out.below⟩
        have a2 : (d : Int) ≤ 126 := by omega
        by_cases q3 : d < 48
        · have a3 : (d : Int) < 48 := by omega
          by_cases q5 : u < 1
          · have hfv : f = false := by rw [← hF]; unfold fineP; simp; omega
            subst hfv
            have a3' : decide ((d : Int) < 48) = true := by first | omega | (simp; omega)
            have a5 : decide ((1 : Int) ≤ (u : Int)) = false := by first | omega | (simp; omega)
            have a5' : ¬ (1 : Int) ≤ (u : Int) := by first | omega | (simp; omega)
            clear hF hQ
            go_upto_region 16 with (fail)
            have HKd := Lib.hid (HKYc.out.alloc (.cells #[.int .i64 0, .int .i64 0, .int .i64 0, .int .i64 0, .int .i64 (u : Int)] 29))
            have HAd := Lib.hid (HNYav2Ybv3Yc.out.alloc (.cells #[.int .i64 0, .int .i64 0, .int .i64 0, .int .i64 0, .int .i64 (u : Int)] 29))
            have HNd := Lib.hid (Blk.new Yc 29 #[.int .i64 0, .int .i64 0, .int .i64 0, .int .i64 0, .int .i64 (u : Int)])
            generalize Yc.alloc (.cells #[.int .i64 0, .int .i64 0, .int .i64 0, .int .i64 0, .int .i64 (u : Int)] 29) = Wd at *
            obtain ⟨gd, hg⟩ : ∃ g, Yc.heap.size = g := ⟨_, rfl⟩
            rw [hg] at HNd ⊢
            clear hg
            go_wp2_with fail
            go_ret
            exact ⟨rfl, HKd.out.below⟩
          by_cases q6 : 65535 < u
          · have hfv : f = false := by rw [← hF]; unfold fineP; simp; omega
            subst hfv
            have a3' : decide ((d : Int) < 48) = true := by first | omega | (simp; omega)
            have a5 : (1 : Int) ≤ (u : Int) := by first | omega | (simp; omega)
            have a6 : decide ((u : Int) ≤ 65535) = false := by first | omega | (simp; omega)
            have a6' : ¬ (u : Int) ≤ 65535 := by first | omega | (simp; omega)
            clear hF hQ
            go_upto_region 16 with (fail)
            have HKd := Lib.hid (HKYc.out.alloc (.cells #[.int .i64 0, .int .i64 0, .int .i64 0, .int .i64 0, .int .i64 (u : Int)] 29))
            have HAd := Lib.hid (HNYav2Ybv3Yc.out.alloc (.cells #[.int .i64 0, .int .i64 0, .int .i64 0, .int .i64 0, .int .i64 (u : Int)] 29))
            have HNd := Lib.hid (Blk.new Yc 29 #[.int .i64 0, .int .i64 0, .int .i64 0, .int .i64 0, .int .i64 (u : Int)])
            generalize Yc.alloc (.cells #[.int .i64 0, .int .i64 0, .int .i64 0, .int .i64 0, .int .i64 (u : Int)] 29) = Wd at *
            obtain ⟨gd, hg⟩ : ∃ g, Yc.heap.size = g := ⟨_, rfl⟩
            rw [hg] at HNd ⊢
            clear hg
            go_wp2_with fail
            go_ret
            exact ⟨rfl, HKd.out.below⟩
          · have hfv : f = true := by rw [← hF]; unfold fineP; simp; omega
            subst hfv
            have a3' : decide ((d : Int) < 48) = true := by first | omega | (simp; omega)
            have a5 : (1 : Int) ≤ (u : Int) := by first | omega | (simp; omega)
            have a6 : (u : Int) ≤ 65535 := by first | omega | (simp; omega)
            have hqu := hQ rfl
            subst hqu
            clear hF hQ
            go_upto_region 16 with (fail)
            have HKd := Lib.hid (HKYc.out.alloc (.cells #[.int .i64 0, .int .i64 0, .int .i64 0, .int .i64 0, .int .i64 (u : Int)] 29))
            have HAd := Lib.hid (HNYav2Ybv3Yc.out.alloc (.cells #[.int .i64 0, .int .i64 0, .int .i64 0, .int .i64 0, .int .i64 (u : Int)] 29))
            have HNd := Lib.hid (Blk.new Yc 29 #[.int .i64 0, .int .i64 0, .int .i64 0, .int .i64 0, .int .i64 (u : Int)])
            generalize Yc.alloc (.cells #[.int .i64 0, .int .i64 0, .int .i64 0, .int .i64 0, .int .i64 (u : Int)] 29) = Wd at *
            obtain ⟨gd, hg⟩ : ∃ g, Yc.heap.size = g := ⟨_, rfl⟩
            rw [hg] at HNd ⊢
            clear hg
            have c0 : Wd.cell? ⟨gYa, 0, none⟩ = some (.int .i64 0) := HAd.out.cell 0
            have d0 : Wd.cell? ⟨gd, 0, none⟩ = some (.int .i64 0) := HNd.out.cell 0
            have c1 : Wd.cell? ⟨gYa, 1, none⟩ = some (.int .i64 0) := HAd.out.cell 1
            have d1 : Wd.cell? ⟨gd, 1, none⟩ = some (.int .i64 0) := HNd.out.cell 1
            have c2 : Wd.cell? ⟨gYa, 2, none⟩ = some (.int .i64 0) := HAd.out.cell 2
            have d2 : Wd.cell? ⟨gd, 2, none⟩ = some (.int .i64 0) := HNd.out.cell 2
            have c3 : Wd.cell? ⟨gYa, 3, none⟩ = some (.int .i64 0) := HAd.out.cell 3
            have d3 : Wd.cell? ⟨gd, 3, none⟩ = some (.int .i64 0) := HNd.out.cell 3
            have c4 : Wd.cell? ⟨gYa, 4, none⟩ = some (.int .i64 (u : Int)) := HAd.out.cell 4
            have d4 : Wd.cell? ⟨gd, 4, none⟩ = some (.int .i64 (u : Int)) := HNd.out.cell 4
            go_wp2_with fail
            go_ret
            exact ⟨rfl, HKd.out.below⟩
        · by_cases q4 : d ≤ 57
          · have hfv : f = false := by rw [← hF]; unfold fineP; simp; omega
            subst hfv
            have a3 : decide ((d : Int) < 48) = false := by first | omega | (simp; omega)
            have a3' : ¬ (d : Int) < 48 := by first | omega | (simp; omega)
            have a4 : ¬ (57 : Int) < (d : Int) := by first | omega | (simp; omega)
            have a4' : decide ((57 : Int) < (d : Int)) = false := by first | omega | (simp; omega)
            clear hF hQ
            go_upto_region 16 with (fail)
            have HKd := Lib.hid (HKYc.out.alloc (.cells #[.int .i64 0, .int .i64 0, .int .i64 0, .int .i64 0, .int .i64 (u : Int)] 29))
            have HAd := Lib.hid (HNYav2Ybv3Yc.out.alloc (.cells #[.int .i64 0, .int .i64 0, .int .i64 0, .int .i64 0, .int .i64 (u : Int)] 29))
            have HNd := Lib.hid (Blk.new Yc 29 #[.int .i64 0, .int .i64 0, .int .i64 0, .int .i64 0, .int .i64 (u : Int)])
            generalize Yc.alloc (.cells #[.int .i64 0, .int .i64 0, .int .i64 0, .int .i64 0, .int .i64 (u : Int)] 29) = Wd at *
            obtain ⟨gd, hg⟩ : ∃ g, Yc.heap.size = g := ⟨_, rfl⟩
            rw [hg] at HNd ⊢
            clear hg
            go_wp2_with fail
            go_ret
            exact ⟨rfl, HKd.out.below⟩
          · have a3 : ¬ (d : Int) < 48 := by omega
            by_cases q5 : u < 1
            · have hfv : f = false := by rw [← hF]; unfold fineP; simp; omega
              subst hfv
              have a3' : decide ((d : Int) < 48) = false := by first | omega | (simp; omega)
              have a4 : (57 : Int) < (d : Int) := by first | omega | (simp; omega)
              have a5 : decide ((1 : Int) ≤ (u : Int)) = false := by first | omega | (simp; omega)
              have a5' : ¬ (1 : Int) ≤ (u : Int) := by first | omega | (simp; omega)
              clear hF hQ
              go_upto_region 16 with (fail)
              have HKd := Lib.hid (HKYc.out.alloc (.cells #[.int .i64 0, .int .i64 0, .int .i64 0, .int .i64 0, .int .i64 (u : Int)] 29))
              have HAd := Lib.hid (HNYav2Ybv3Yc.out.alloc (.cells #[.int .i64 0, .int .i64 0, .int .i64 0, .int .i64 0, .int .i64 (u : Int)] 29))
              have HNd := Lib.hid (Blk.new Yc 29 #[.int .i64 0, .int .i64 0, .int .i64 0, .int .i64 0, .int .i64 (u : Int)])
              generalize Yc.alloc (.cells #[.int .i64 0, .int .i64 0, .int .i64 0, .int .i64 0, .int .i64 (u : Int)] 29) = Wd at *
              obtain ⟨gd, hg⟩ : ∃ g, Yc.heap.size = g := ⟨_, rfl⟩
              rw [hg] at HNd ⊢
              clear hg
              go_wp2_with fail
              go_ret
              exact ⟨rfl, HKd.out.below⟩
            by_cases q6 : 65535 < u
            · have hfv : f = false := by rw [← hF]; unfold fineP; simp; omega
              subst hfv
              have a3' : decide ((d : Int) < 48) = false := by first | omega | (simp; omega)
              have a4 : (57 : Int) < (d : Int) := by first | omega | (simp; omega)
              have a5 : (1 : Int) ≤ (u : Int) := by first | omega | (simp; omega)
              have a6 : decide ((u : Int) ≤ 65535) = false := by first | omega | (simp; omega)
              have a6' : ¬ (u : Int) ≤ 65535 := by first | omega | (simp; omega)
              clear hF hQ
              go_upto_region 16 with (fail)
              have HKd := Lib.hid (HKYc.out.alloc (.cells #[.int .i64 0, .int .i64 0, .int .i64 0, .int .i64 0, .int .i64 (u : Int)] 29))
              have HAd := Lib.hid (HNYav2Ybv3Yc.out.alloc (.cells #[.int .i64 0, .int .i64 0, .int .i64 0, .int .i64 0, .int .i64 (u : Int)] 29))
              have HNd := Lib.hid (Blk.new Yc 29 #[.int .i64 0, .int .i64 0, .int .i64 0, .int .i64 0, .int .i64 (u : Int)])
              generalize Yc.alloc (.cells #[.int .i64 0, .int .i64 0, .int .i64 0, .int .i64 0, .int .i64 (u : Int)] 29) = Wd at *
              obtain ⟨gd, hg⟩ : ∃ g, Yc.heap.size = g := ⟨_, rfl⟩
              rw [hg] at HNd ⊢
              clear hg
              go_wp2_with fail
              go_ret
              exact ⟨rfl, HKd.out.below⟩
            · have hfv : f = true := by rw [← hF]; unfold fineP; simp; omega
              subst hfv
              have a3' : decide ((d : Int) < 48) = false := by first | omega | (simp; omega)
              have a4 : (57 : Int) < (d : Int) := by first | omega | (simp; omega)
              have a5 : (1 : Int) ≤ (u : Int) := by first | omega | (simp; omega)
              have a6 : (u : Int) ≤ 65535 := by first | omega | (simp; omega)
              have hqu := hQ rfl
              subst hqu
              clear hF hQ
              go_upto_region 16 with (fail)
              have HKd := Lib.hid (HKYc.out.alloc (.cells #[.int .i64 0, .int .i64 0, .int .i64 0, .int .i64 0, .int .i64 (u : Int)] 29))
              have HAd := Lib.hid (HNYav2Ybv3Yc.out.alloc (.cells #[.int .i64 0, .int .i64 0, .int .i64 0, .int .i64 0, .int .i64 (u : Int)] 29))
              have HNd := Lib.hid (Blk.new Yc 29 #[.int .i64 0, .int .i64 0, .int .i64 0, .int .i64 0, .int .i64 (u : Int)])
              generalize Yc.alloc (.cells #[.int .i64 0, .int .i64 0, .int .i64 0, .int .i64 0, .int .i64 (u : Int)] 29) = Wd at *
              obtain ⟨gd, hg⟩ : ∃ g, Yc.heap.size = g := ⟨_, rfl⟩
              rw [hg] at HNd ⊢
              clear hg
              have c0 : Wd.cell? ⟨gYa, 0, none⟩ = some (.int .i64 0) := HAd.out.cell 0
              have d0 : Wd.cell? ⟨gd, 0, none⟩ = some (.int .i64 0) := HNd.out.cell 0
              have c1 : Wd.cell? ⟨gYa, 1, none⟩ = some (.int .i64 0) := HAd.out.cell 1
              have d1 : Wd.cell? ⟨gd, 1, none⟩ = some (.int .i64 0) := HNd.out.cell 1
              have c2 : Wd.cell? ⟨gYa, 2, none⟩ = some (.int .i64 0) := HAd.out.cell 2
              have d2 : Wd.cell? ⟨gd, 2, none⟩ = some (.int .i64 0) := HNd.out.cell 2
              have c3 : Wd.cell? ⟨gYa, 3, none⟩ = some (.int .i64 0) := HAd.out.cell 3
              have d3 : Wd.cell? ⟨gd, 3, none⟩ = some (.int .i64 0) := HNd.out.cell 3
              have c4 : Wd.cell? ⟨gYa, 4, none⟩ = some (.int .i64 (u : Int)) := HAd.out.cell 4
              have d4 : Wd.cell? ⟨gd, 4, none⟩ = some (.int .i64 (u : Int)) := HNd.out.cell 4
              go_wp2_with fail
              go_ret
              exact ⟨rfl, HKd.out.below⟩
theorem addrPorts_walk (W : World) (a0 a1 : Int) (a2 : ByteArray) (w0 : (Lit.int .i64 a0).wf = true) (w1 : (Lit.int .u8 a1).wf = true) (w2 : a2.size ≤ 140737488351232) (hL : laidMetH Tryd.prog Rows.addrPortsRow.laid W) (hsh : W.ShapedOpen Tryd.prog) :
    Calls Tryd.prog 4 #[.int .i64 a0, .int .u8 a1, .string a2] W fun en w' => en = .returned (.bool true) ∧ Below W.heap.size W w' := by
  have h1 : 0 ≤ a1 ∧ a1 ≤ 255 := by simpa [Lit.wf, IntKind.min, IntKind.max, IntKind.signed, IntKind.bits] using w1
  have h := ports_law W a0 a1.toNat a2.data.toList (by omega) (by rw [Array.length_toList]; exact w2) (LdT.of hL hsh)
  rwa [strB_data, Int.toNat_of_nonneg h1.1] at h
end Go.Proofs.YtlbipnfnimekfaaDoor
