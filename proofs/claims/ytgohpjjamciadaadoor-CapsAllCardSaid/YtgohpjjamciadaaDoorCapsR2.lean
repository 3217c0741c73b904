/- The reference's things of a reply. -/
import Derived.Test.YtgohpjjamciadaaDoorCapsR1
import Derived.Test.YtgohpjjamciadaaDoorCapsF
set_option linter.unusedVariables false
set_option linter.unusedSimpArgs false
namespace Go.Proofs.YtgohpjjamciadaaDoor
open Go.RowKit Go.Shelf

set_option maxHeartbeats 16000000 in
set_option maxRecDepth 100000 in
theorem refOf_calls (w : World) (proto : Int) (code : ByteArray) (S T : Nat → Prop) (A B : Option Addr) (n c m d : Nat) (ls : List (List UInt8)) (body : List UInt8)
    (hA : Reads w S A n (strs ls)) (hnc : n ≤ c) (hB : Reads w T B m (b8s body)) (hmd : m ≤ d) (hbl : body.length ≤ 1099511627) (hn : n ≤ 1099511627)
    (L : List (List UInt8)) (hL : linesL proto ls body = L) (hLl : L.length ≤ 1099511627) (hLs : ∀ s ∈ L, s.length ≤ 1099511627) :
    Calls Tryd.prog 12 #[.int .i64 proto, .agg #[.string code, .slice A n c, .slice B m d]] w fun en w' =>
      ∃ C e, en = .returned (.slice C (capsL L).length e) ∧ (capsL L).length ≤ e ∧ CapsR w' (fun b => w.heap.size ≤ b) C (capsL L).length (capsL L) ∧ Kept w w' NoB := by
  obtain ⟨hi0, hz1, hz0⟩ := info_strI
  have hl : ls.length = n := by have := hA.1; rwa [strs_length] at this
  have hml : body.length = m := by have := hB.1; rwa [b8s_length] at this
  have HLS := Lib.hid hLs
  obtain ⟨g, hg⟩ : ∃ g, w.heap.size + 2 = g := ⟨_, rfl⟩
  have HK1 : w.heap.size ≤ g := by omega
  have HG0 := Lib.hid hg
  clear hg
  clear hLs
  go_enter Tryd.func12, Tryd.ntmps12
  by_cases h1 : proto = 1
  · subst h1
    by_cases h2 : 1 < ls.length
    · have t1 : (1 : Int) < (n : Int) := by omega
      have e : linesL 1 ls body = ls.drop 1 := by unfold linesL; rw [if_pos ⟨rfl, h2⟩]
      have hr0 := hA.drop (k := 1) (cap := c) (by omega) hnc
      obtain ⟨C, hC⟩ : ∃ C, Option.map (fun x : Addr => (⟨x.block, x.off + 1, none⟩ : Addr)) A = C := ⟨_, rfl⟩
      have hr1 : Reads w S C (n - 1) (strs L) := by
        rw [strs_drop, if_neg (by omega), ← e, hL] at hr0
        rw [← hC]
        exact hr0
      have hkl : L.length = n - 1 := by have := hr1.1; rwa [strs_length] at this
      clear hr0
      go_wp2_with fail
      clear hC
      go_loopg [6, 7, 8] (n - 1) (fun gk v6 v7 v8 wr => OfS w g L C (n - 1) gk v6 v7 wr)
      case atStart =>
        have hg := HG0.out
        have hm0 := CapsO.made0 ((w.alloc (.cells #[.string code, .slice A n c, .slice B m d] 25)).alloc (.cells #[] 9)) (fun b => g ≤ b) (by show g ≤ _; rw [World.size_alloc, World.size_alloc]; omega)
        rw [World.size_alloc, World.size_alloc] at hm0
        refine ⟨0, Nat.zero_le _, rfl, rfl, hm0, ?_, ((((Kept.refl w NoB).alloc _).alloc _).alloc _), by rw [World.size_alloc, World.size_alloc, World.size_alloc]; omega⟩
        exact ((((hr1.mono fun b hb _ => (by omega : b < g)).alloc _).alloc _).alloc _)
      case round =>
        obtain ⟨i, hi, hgk, rfl, hcap, hrd, hkr, hgw⟩ := hrel
        have HG := Lib.hid hgk
        have HKR := Lib.hid hkr
        have HRD := Lib.hid hrd
        have HC := Lib.hid hcap
        obtain ⟨CA, cc, hv5, _, _⟩ := hcap.shape
        subst hv5
        have hcl : (capsL (L.take i)).length ≤ 1099511627 := by
          have := capsL_len (L.take i)
          rw [List.length_take] at this
          omega
        clear hgk hkr hrd hcap
        rcases Nat.lt_or_ge i ((n - 1)) with hlt | hge
        · have hli : i < L.length := by omega
          obtain ⟨ad, u, hA1, hu, hcell⟩ := HRD.out.at_ hlt
          subst hA1
          rw [strs_at L i hli] at hu
          injection hu with hu
          subst hu
          have hll := HLS.out L[i] (List.getElem_mem hli)
          have hblk : ad.block < g := by
            obtain ⟨ad', h1, h2, h3, _⟩ := HRD.out.2 (by omega)
            injection h1 with h1
            rw [h1]
            exact h2
          have hsn := capsL_snoc L hli
          have HSN := Lib.hid hsn
          clear hsn
          go_wp2_with fail
          refine (refUpper_calls wr L[i] (by omega)).mono ?_
          rintro en w2 ⟨rfl, hk2⟩
          go_wp2_with fail
          refine (refWords_calls w2 (upL L[i]) (by rw [upL_length]; omega)).mono ?_
          rintro en w3 ⟨v8, rfl, hrow, hk3⟩
          have hk2size : g ≤ w2.heap.size ∧ wr.heap.size ≤ w3.heap.size := ⟨Nat.le_trans hgw hk2.size, Nat.le_trans hk2.size hk3.size⟩
          have hkr32 : wr.heap.size ≤ w2.heap.size := hk2.size
          have hkr3 := HKR.out.trans' (hk2.trans' hk3)
          have hC3 := HC.out.kept0 (hk2.trans' hk3)
          have hrd3 := HRD.out.kept0 (hk2.trans' hk3)
          obtain ⟨ws, hws⟩ : ∃ ws, wordsL (upL L[i]) = ws := ⟨_, rfl⟩
          have hco : capOf L[i] = headCap ws := by unfold capOf; rw [hws]
          rw [hws] at hrow
          obtain ⟨A8, c8, rfl, hc8, hr8⟩ := hrow.readsN (n := ws.length) (strs_length _)
          have H3 := Lib.hid hkr3
          have HC3 := Lib.hid hC3
          have HRD3 := Lib.hid hrd3
          clear hkr3 hC3 hrd3 hk2 hk3 hws hrow
          rcases ws with _ | ⟨w0, ws⟩
          · rw [hco] at HSN
            go_wp2_with fail
            go_roundg ((n - 1) - (i + 1))
            case measure => have := HG.out; omega
            case rel => exact ⟨i + 1, hlt, rfl, by go_num, by rw [HSN.out]; simpa [headCap] using HC3.out, HRD3.out, H3.out, by omega⟩
          · rw [hco] at HSN
            obtain ⟨ad8, u, hA8, hu, hcell8⟩ := hr8.at_ (k := 0) (by simp)
            subst hA8
            rw [strs_at (w0 :: ws) 0 (by simp)] at hu
            injection hu with hu
            subst hu
            rw [add_zero_] at hcell8
            have HR8 := Lib.hid hr8
            have hblk8 : ad8.block < w3.heap.size := by
              obtain ⟨ad', h1, h2, h3, _⟩ := hr8.2 (by simp)
              injection h1 with h1
              rw [h1]
              exact h3
            simp only [List.length_cons] at hc8 ⊢
            have t0 : (0 : Int) < ((ws.length + 1 : Nat) : Int) := by omega
            clear hr8
            go_wp2_with fail
            have t1 : (1 : Int) ≤ (ws.length : Int) + 1 := by omega
            obtain ⟨A', hA'⟩ : ∃ A', (if c8 = 1 then some ad8 else some (⟨ad8.block, ad8.off + 1, none⟩ : Addr)) = A' := ⟨_, rfl⟩
            have hrA : Reads w3.drew (fun k => g ≤ k ∧ ¬ OB (.slice CA (capsL (L.take i)).length cc) k) A' ws.length (strs ws) := by
              have := HR8.out.drop (k := 1) (cap := c8) (by simp) hc8
              rw [strs_drop] at this
              have e : (if c8 = 1 then some ad8 else Option.map (fun x => x.add 1) (some ad8)) = A' := hA'
              rw [e] at this
              refine Reads.mono this fun b hb hs => ⟨Nat.le_trans hk2size.1 hs, fun ho => ?_⟩
              have h7 := HC.out.lt ho
              have h8 : w2.heap.size ≤ b := hs
              omega
            have HRA := Lib.hid hrA
            clear hrA
            go_region_law (refine step_appCap (W := w3.drew) rfl (.tmp 54) (.tmp 61) rfl (fun b => g ≤ b) (.slice CA (capsL (L.take i)).length cc) (capsL (L.take i)) w0 ws A' ws.length (c8 - 1) rfl rfl HC3.out HRA.out (by omega) (fun b hb => by have : w3.heap.size ≤ b := hb; omega) (by omega) ?_; intro v9 w9 hc9 hk9)
            all_goals
              go_wp2_with fail
              go_roundg ((n - 1) - (i + 1))
              case measure => have := HG.out; omega
              case rel =>
                refine ⟨i + 1, hlt, rfl, by go_num, by rw [HSN.out]; exact hc9, (HRD3.out.drew).kept hk9 fun b _ hb ho => ?_, (H3.out.drew).trans hk9 fun b ho => .inr ?_, ?_⟩
                · obtain ⟨_, _, h5, _⟩ := HC.out
                  have := h5 b ho
                  omega
                · obtain ⟨_, _, h5, _⟩ := HC.out
                  have := h5 b ho
                  omega
                · have h6 : w3.heap.size ≤ w9.heap.size := hk9.size
                  omega
        · obtain rfl : i = (n - 1) := by omega
          have hT : L.take (n - 1) = L := List.take_of_length_le (by omega)
          rw [hT] at HC
          obtain ⟨C', c', hv, h2, h3⟩ := HC.out.shape
          injection hv with hv1 _ hv2
          subst hv1 hv2
          have hTl : (capsL (L.take (n - 1))).length = (capsL L).length := by rw [hT]
          go_wp2_with fail
          go_ret
          exact ⟨_, _, by first | rfl | (rw [← hTl]; rfl), h2, h3.mono fun b _ hb => by omega, HKR.out⟩
    · have t1 : ¬ (1 : Int) < (n : Int) := by omega
      have e : linesL 1 ls body = [] := by unfold linesL; rw [if_neg (by omega), if_neg (by omega), if_neg (by omega)]
      rw [e] at hL
      have hr1 : Reads w S (some ⟨w.heap.size + 1, 0, none⟩) 0 (strs L) := by rw [← hL]; exact Reads.nil _ _ _
      have hkl : L.length = 0 := by rw [← hL]; rfl
      go_wp2_with fail
      obtain ⟨C, hC⟩ : ∃ C : Option Addr, some (⟨w.heap.size + 1, 0, none⟩ : Addr) = C := ⟨_, rfl⟩
      rw [hC] at hr1
      rw [hC]
      clear hC
      go_loopg [6, 7, 8] 0 (fun gk v6 v7 v8 wr => OfS w g L C 0 gk v6 v7 wr)
      case atStart =>
        have hg := HG0.out
        have hm0 := CapsO.made0 ((w.alloc (.cells #[.string code, .slice A n c, .slice B m d] 25)).alloc (.cells #[] 9)) (fun b => g ≤ b) (by show g ≤ _; rw [World.size_alloc, World.size_alloc]; omega)
        rw [World.size_alloc, World.size_alloc] at hm0
        refine ⟨0, Nat.zero_le _, rfl, rfl, hm0, ?_, ((((Kept.refl w NoB).alloc _).alloc _).alloc _), by rw [World.size_alloc, World.size_alloc, World.size_alloc]; omega⟩
        exact ((((hr1.mono fun b hb _ => (by omega : b < g)).alloc _).alloc _).alloc _)
      case round =>
        obtain ⟨i, hi, hgk, rfl, hcap, hrd, hkr, hgw⟩ := hrel
        have HG := Lib.hid hgk
        have HKR := Lib.hid hkr
        have HRD := Lib.hid hrd
        have HC := Lib.hid hcap
        obtain ⟨CA, cc, hv5, _, _⟩ := hcap.shape
        subst hv5
        have hcl : (capsL (L.take i)).length ≤ 1099511627 := by
          have := capsL_len (L.take i)
          rw [List.length_take] at this
          omega
        clear hgk hkr hrd hcap
        rcases Nat.lt_or_ge i (0) with hlt | hge
        · exact absurd hlt (by omega)
        · obtain rfl : i = 0 := by omega
          have hT : L.take 0 = L := List.take_of_length_le (by omega)
          rw [hT] at HC
          obtain ⟨C', c', hv, h2, h3⟩ := HC.out.shape
          injection hv with hv1 _ hv2
          subst hv1 hv2
          have hTl : (capsL (L.take 0)).length = (capsL L).length := by rw [hT]
          go_wp2_with fail
          go_ret
          exact ⟨_, _, by first | rfl | (rw [← hTl]; rfl), h2, h3.mono fun b _ hb => by omega, HKR.out⟩
  · have n1 : (proto == 1) = false := by simpa using h1
    by_cases h3 : proto = 3
    · subst h3
      by_cases h2 : 2 < ls.length
      · have t1 : (2 : Int) < (n : Int) := by omega
        have e : linesL 3 ls body = (ls.take (ls.length - 1)).drop 1 := by unfold linesL; rw [if_neg (by omega), if_pos ⟨rfl, h2⟩]
        have hr0 := (hA.take (k := n - 1) (by omega)).drop (k := 1) (cap := c) (by omega) (by omega)
        obtain ⟨C, hC⟩ : ∃ C, Option.map (fun x : Addr => (⟨x.block, x.off + 1, none⟩ : Addr)) A = C := ⟨_, rfl⟩
        have hr1 : Reads w S C (n - 1 - 1) (strs L) := by
          rw [strs_take, strs_drop, if_neg (by omega), ← hl, ← e, hL, hl] at hr0
          rw [← hC]
          exact hr0
        have hkl : L.length = n - 1 - 1 := by have := hr1.1; rwa [strs_length] at this
        clear hr0
        go_wp2_with fail
        clear hC
        go_loopg [6, 7, 8] (n - 1 - 1) (fun gk v6 v7 v8 wr => OfS w g L C (n - 1 - 1) gk v6 v7 wr)
        case atStart =>
          have hg := HG0.out
          have hm0 := CapsO.made0 ((w.alloc (.cells #[.string code, .slice A n c, .slice B m d] 25)).alloc (.cells #[] 9)) (fun b => g ≤ b) (by show g ≤ _; rw [World.size_alloc, World.size_alloc]; omega)
          rw [World.size_alloc, World.size_alloc] at hm0
          refine ⟨0, Nat.zero_le _, rfl, rfl, hm0, ?_, ((((Kept.refl w NoB).alloc _).alloc _).alloc _), by rw [World.size_alloc, World.size_alloc, World.size_alloc]; omega⟩
          exact ((((hr1.mono fun b hb _ => (by omega : b < g)).alloc _).alloc _).alloc _)
        case round =>
          obtain ⟨i, hi, hgk, rfl, hcap, hrd, hkr, hgw⟩ := hrel
          have HG := Lib.hid hgk
          have HKR := Lib.hid hkr
          have HRD := Lib.hid hrd
          have HC := Lib.hid hcap
          obtain ⟨CA, cc, hv5, _, _⟩ := hcap.shape
          subst hv5
          have hcl : (capsL (L.take i)).length ≤ 1099511627 := by
            have := capsL_len (L.take i)
            rw [List.length_take] at this
            omega
          clear hgk hkr hrd hcap
          rcases Nat.lt_or_ge i ((n - 1 - 1)) with hlt | hge
          · have hli : i < L.length := by omega
            obtain ⟨ad, u, hA1, hu, hcell⟩ := HRD.out.at_ hlt
            subst hA1
            rw [strs_at L i hli] at hu
            injection hu with hu
            subst hu
            have hll := HLS.out L[i] (List.getElem_mem hli)
            have hblk : ad.block < g := by
              obtain ⟨ad', h1, h2, h3, _⟩ := HRD.out.2 (by omega)
              injection h1 with h1
              rw [h1]
              exact h2
            have hsn := capsL_snoc L hli
            have HSN := Lib.hid hsn
            clear hsn
            go_wp2_with fail
            refine (refUpper_calls wr L[i] (by omega)).mono ?_
            rintro en w2 ⟨rfl, hk2⟩
            go_wp2_with fail
            refine (refWords_calls w2 (upL L[i]) (by rw [upL_length]; omega)).mono ?_
            rintro en w3 ⟨v8, rfl, hrow, hk3⟩
            have hk2size : g ≤ w2.heap.size ∧ wr.heap.size ≤ w3.heap.size := ⟨Nat.le_trans hgw hk2.size, Nat.le_trans hk2.size hk3.size⟩
            have hkr32 : wr.heap.size ≤ w2.heap.size := hk2.size
            have hkr3 := HKR.out.trans' (hk2.trans' hk3)
            have hC3 := HC.out.kept0 (hk2.trans' hk3)
            have hrd3 := HRD.out.kept0 (hk2.trans' hk3)
            obtain ⟨ws, hws⟩ : ∃ ws, wordsL (upL L[i]) = ws := ⟨_, rfl⟩
            have hco : capOf L[i] = headCap ws := by unfold capOf; rw [hws]
            rw [hws] at hrow
            obtain ⟨A8, c8, rfl, hc8, hr8⟩ := hrow.readsN (n := ws.length) (strs_length _)
            have H3 := Lib.hid hkr3
            have HC3 := Lib.hid hC3
            have HRD3 := Lib.hid hrd3
            clear hkr3 hC3 hrd3 hk2 hk3 hws hrow
            rcases ws with _ | ⟨w0, ws⟩
            · rw [hco] at HSN
              go_wp2_with fail
              go_roundg ((n - 1 - 1) - (i + 1))
              case measure => have := HG.out; omega
              case rel => exact ⟨i + 1, hlt, rfl, by go_num, by rw [HSN.out]; simpa [headCap] using HC3.out, HRD3.out, H3.out, by omega⟩
            · rw [hco] at HSN
              obtain ⟨ad8, u, hA8, hu, hcell8⟩ := hr8.at_ (k := 0) (by simp)
              subst hA8
              rw [strs_at (w0 :: ws) 0 (by simp)] at hu
              injection hu with hu
              subst hu
              rw [add_zero_] at hcell8
              have HR8 := Lib.hid hr8
              have hblk8 : ad8.block < w3.heap.size := by
                obtain ⟨ad', h1, h2, h3, _⟩ := hr8.2 (by simp)
                injection h1 with h1
                rw [h1]
                exact h3
              simp only [List.length_cons] at hc8 ⊢
              have t0 : (0 : Int) < ((ws.length + 1 : Nat) : Int) := by omega
              clear hr8
              go_wp2_with fail
              have t1 : (1 : Int) ≤ (ws.length : Int) + 1 := by omega
              obtain ⟨A', hA'⟩ : ∃ A', (if c8 = 1 then some ad8 else some (⟨ad8.block, ad8.off + 1, none⟩ : Addr)) = A' := ⟨_, rfl⟩
              have hrA : Reads w3.drew (fun k => g ≤ k ∧ ¬ OB (.slice CA (capsL (L.take i)).length cc) k) A' ws.length (strs ws) := by
                have := HR8.out.drop (k := 1) (cap := c8) (by simp) hc8
                rw [strs_drop] at this
                have e : (if c8 = 1 then some ad8 else Option.map (fun x => x.add 1) (some ad8)) = A' := hA'
                rw [e] at this
                refine Reads.mono this fun b hb hs => ⟨Nat.le_trans hk2size.1 hs, fun ho => ?_⟩
                have h7 := HC.out.lt ho
                have h8 : w2.heap.size ≤ b := hs
                omega
              have HRA := Lib.hid hrA
              clear hrA
              go_region_law (refine step_appCap (W := w3.drew) rfl (.tmp 54) (.tmp 61) rfl (fun b => g ≤ b) (.slice CA (capsL (L.take i)).length cc) (capsL (L.take i)) w0 ws A' ws.length (c8 - 1) rfl rfl HC3.out HRA.out (by omega) (fun b hb => by have : w3.heap.size ≤ b := hb; omega) (by omega) ?_; intro v9 w9 hc9 hk9)
              all_goals
                go_wp2_with fail
                go_roundg ((n - 1 - 1) - (i + 1))
                case measure => have := HG.out; omega
                case rel =>
                  refine ⟨i + 1, hlt, rfl, by go_num, by rw [HSN.out]; exact hc9, (HRD3.out.drew).kept hk9 fun b _ hb ho => ?_, (H3.out.drew).trans hk9 fun b ho => .inr ?_, ?_⟩
                  · obtain ⟨_, _, h5, _⟩ := HC.out
                    have := h5 b ho
                    omega
                  · obtain ⟨_, _, h5, _⟩ := HC.out
                    have := h5 b ho
                    omega
                  · have h6 : w3.heap.size ≤ w9.heap.size := hk9.size
                    omega
          · obtain rfl : i = (n - 1 - 1) := by omega
            have hT : L.take (n - 1 - 1) = L := List.take_of_length_le (by omega)
            rw [hT] at HC
            obtain ⟨C', c', hv, h2, h3⟩ := HC.out.shape
            injection hv with hv1 _ hv2
            subst hv1 hv2
            have hTl : (capsL (L.take (n - 1 - 1))).length = (capsL L).length := by rw [hT]
            go_wp2_with fail
            go_ret
            exact ⟨_, _, by first | rfl | (rw [← hTl]; rfl), h2, h3.mono fun b _ hb => by omega, HKR.out⟩
      · have t1 : ¬ (2 : Int) < (n : Int) := by omega
        have e : linesL 3 ls body = [] := by unfold linesL; rw [if_neg (by omega), if_neg (by omega), if_neg (by omega)]
        rw [e] at hL
        have hr1 : Reads w S (some ⟨w.heap.size + 1, 0, none⟩) 0 (strs L) := by rw [← hL]; exact Reads.nil _ _ _
        have hkl : L.length = 0 := by rw [← hL]; rfl
        go_wp2_with fail
        obtain ⟨C, hC⟩ : ∃ C : Option Addr, some (⟨w.heap.size + 1, 0, none⟩ : Addr) = C := ⟨_, rfl⟩
        rw [hC] at hr1
        rw [hC]
        clear hC
        go_loopg [6, 7, 8] 0 (fun gk v6 v7 v8 wr => OfS w g L C 0 gk v6 v7 wr)
        case atStart =>
          have hg := HG0.out
          have hm0 := CapsO.made0 ((w.alloc (.cells #[.string code, .slice A n c, .slice B m d] 25)).alloc (.cells #[] 9)) (fun b => g ≤ b) (by show g ≤ _; rw [World.size_alloc, World.size_alloc]; omega)
          rw [World.size_alloc, World.size_alloc] at hm0
          refine ⟨0, Nat.zero_le _, rfl, rfl, hm0, ?_, ((((Kept.refl w NoB).alloc _).alloc _).alloc _), by rw [World.size_alloc, World.size_alloc, World.size_alloc]; omega⟩
          exact ((((hr1.mono fun b hb _ => (by omega : b < g)).alloc _).alloc _).alloc _)
        case round =>
          obtain ⟨i, hi, hgk, rfl, hcap, hrd, hkr, hgw⟩ := hrel
          have HG := Lib.hid hgk
          have HKR := Lib.hid hkr
          have HRD := Lib.hid hrd
          have HC := Lib.hid hcap
          obtain ⟨CA, cc, hv5, _, _⟩ := hcap.shape
          subst hv5
          have hcl : (capsL (L.take i)).length ≤ 1099511627 := by
            have := capsL_len (L.take i)
            rw [List.length_take] at this
            omega
          clear hgk hkr hrd hcap
          rcases Nat.lt_or_ge i (0) with hlt | hge
          · exact absurd hlt (by omega)
          · obtain rfl : i = 0 := by omega
            have hT : L.take 0 = L := List.take_of_length_le (by omega)
            rw [hT] at HC
            obtain ⟨C', c', hv, h2, h3⟩ := HC.out.shape
            injection hv with hv1 _ hv2
            subst hv1 hv2
            have hTl : (capsL (L.take 0)).length = (capsL L).length := by rw [hT]
            go_wp2_with fail
            go_ret
            exact ⟨_, _, by first | rfl | (rw [← hTl]; rfl), h2, h3.mono fun b _ hb => by omega, HKR.out⟩
    · have n3 : (proto == 3) = false := by simpa using h3
      by_cases h2 : proto = 2
      · subst h2
        clear HG0 HK1 g
        have e : linesL 2 ls body = Lib.split body crlf := by unfold linesL; rw [if_neg (by omega), if_neg (by omega), if_pos rfl]; rfl
        rw [e] at hL
        go_wp2_with fail
        refine (refLines_calls _ T B m d body ((hB.alloc _).alloc _) hmd (by omega)).mono ?_
        rw [hL]
        rintro en w1 ⟨v, rfl, hrow, hk1⟩
        obtain ⟨C, ce, rfl, hce, hr1⟩ := hrow.readsN (n := L.length) (strs_length _)
        have hkl : L.length = L.length := rfl
        have hkp1 : Kept w w1 NoB := (((Kept.refl w NoB).alloc _).alloc _).trans' hk1
        obtain ⟨g, hg⟩ : ∃ g, w1.heap.size = g := ⟨_, rfl⟩
        have HK1 : w.heap.size ≤ g := by rw [← hg]; exact hkp1.size
        have HG0 := Lib.hid hg
        clear hrow hk1 hg
        go_wp2_with fail
        go_loopg [6, 7, 8] L.length (fun gk v6 v7 v8 wr => OfS w g L C L.length gk v6 v7 wr)
        case atStart =>
          have hg := HG0.out
          refine ⟨0, Nat.zero_le _, rfl, rfl, CapsO.made0 w1 (fun b => g ≤ b) (by show g ≤ _; omega), ((hr1.mono fun b hb _ => (by omega : b < g)).alloc _), hkp1.alloc _, by rw [World.size_alloc]; omega⟩
        case round =>
          obtain ⟨i, hi, hgk, rfl, hcap, hrd, hkr, hgw⟩ := hrel
          have HG := Lib.hid hgk
          have HKR := Lib.hid hkr
          have HRD := Lib.hid hrd
          have HC := Lib.hid hcap
          obtain ⟨CA, cc, hv5, _, _⟩ := hcap.shape
          subst hv5
          have hcl : (capsL (L.take i)).length ≤ 1099511627 := by
            have := capsL_len (L.take i)
            rw [List.length_take] at this
            omega
          clear hgk hkr hrd hcap
          rcases Nat.lt_or_ge i (L.length) with hlt | hge
          · have hli : i < L.length := by omega
            obtain ⟨ad, u, hA1, hu, hcell⟩ := HRD.out.at_ hlt
            subst hA1
            rw [strs_at L i hli] at hu
            injection hu with hu
            subst hu
            have hll := HLS.out L[i] (List.getElem_mem hli)
            have hblk : ad.block < g := by
              obtain ⟨ad', h1, h2, h3, _⟩ := HRD.out.2 (by omega)
              injection h1 with h1
              rw [h1]
              exact h2
            have hsn := capsL_snoc L hli
            have HSN := Lib.hid hsn
            clear hsn
            go_wp2_with fail
            refine (refUpper_calls wr L[i] (by omega)).mono ?_
            rintro en w2 ⟨rfl, hk2⟩
            go_wp2_with fail
            refine (refWords_calls w2 (upL L[i]) (by rw [upL_length]; omega)).mono ?_
            rintro en w3 ⟨v8, rfl, hrow, hk3⟩
            have hk2size : g ≤ w2.heap.size ∧ wr.heap.size ≤ w3.heap.size := ⟨Nat.le_trans hgw hk2.size, Nat.le_trans hk2.size hk3.size⟩
            have hkr32 : wr.heap.size ≤ w2.heap.size := hk2.size
            have hkr3 := HKR.out.trans' (hk2.trans' hk3)
            have hC3 := HC.out.kept0 (hk2.trans' hk3)
            have hrd3 := HRD.out.kept0 (hk2.trans' hk3)
            obtain ⟨ws, hws⟩ : ∃ ws, wordsL (upL L[i]) = ws := ⟨_, rfl⟩
            have hco : capOf L[i] = headCap ws := by unfold capOf; rw [hws]
            rw [hws] at hrow
            obtain ⟨A8, c8, rfl, hc8, hr8⟩ := hrow.readsN (n := ws.length) (strs_length _)
            have H3 := Lib.hid hkr3
            have HC3 := Lib.hid hC3
            have HRD3 := Lib.hid hrd3
            clear hkr3 hC3 hrd3 hk2 hk3 hws hrow
            rcases ws with _ | ⟨w0, ws⟩
            · rw [hco] at HSN
              go_wp2_with fail
              go_roundg (L.length - (i + 1))
              case measure => have := HG.out; omega
              case rel => exact ⟨i + 1, hlt, rfl, by go_num, by rw [HSN.out]; simpa [headCap] using HC3.out, HRD3.out, H3.out, by omega⟩
            · rw [hco] at HSN
              obtain ⟨ad8, u, hA8, hu, hcell8⟩ := hr8.at_ (k := 0) (by simp)
              subst hA8
              rw [strs_at (w0 :: ws) 0 (by simp)] at hu
              injection hu with hu
              subst hu
              rw [add_zero_] at hcell8
              have HR8 := Lib.hid hr8
              have hblk8 : ad8.block < w3.heap.size := by
                obtain ⟨ad', h1, h2, h3, _⟩ := hr8.2 (by simp)
                injection h1 with h1
                rw [h1]
                exact h3
              simp only [List.length_cons] at hc8 ⊢
              have t0 : (0 : Int) < ((ws.length + 1 : Nat) : Int) := by omega
              clear hr8
              go_wp2_with fail
              have t1 : (1 : Int) ≤ (ws.length : Int) + 1 := by omega
              obtain ⟨A', hA'⟩ : ∃ A', (if c8 = 1 then some ad8 else some (⟨ad8.block, ad8.off + 1, none⟩ : Addr)) = A' := ⟨_, rfl⟩
              have hrA : Reads w3.drew (fun k => g ≤ k ∧ ¬ OB (.slice CA (capsL (L.take i)).length cc) k) A' ws.length (strs ws) := by
                have := HR8.out.drop (k := 1) (cap := c8) (by simp) hc8
                rw [strs_drop] at this
                have e : (if c8 = 1 then some ad8 else Option.map (fun x => x.add 1) (some ad8)) = A' := hA'
                rw [e] at this
                refine Reads.mono this fun b hb hs => ⟨Nat.le_trans hk2size.1 hs, fun ho => ?_⟩
                have h7 := HC.out.lt ho
                have h8 : w2.heap.size ≤ b := hs
                omega
              have HRA := Lib.hid hrA
              clear hrA
              go_region_law (refine step_appCap (W := w3.drew) rfl (.tmp 54) (.tmp 61) rfl (fun b => g ≤ b) (.slice CA (capsL (L.take i)).length cc) (capsL (L.take i)) w0 ws A' ws.length (c8 - 1) rfl rfl HC3.out HRA.out (by omega) (fun b hb => by have : w3.heap.size ≤ b := hb; omega) (by omega) ?_; intro v9 w9 hc9 hk9)
              all_goals
                go_wp2_with fail
                go_roundg (L.length - (i + 1))
                case measure => have := HG.out; omega
                case rel =>
                  refine ⟨i + 1, hlt, rfl, by go_num, by rw [HSN.out]; exact hc9, (HRD3.out.drew).kept hk9 fun b _ hb ho => ?_, (H3.out.drew).trans hk9 fun b ho => .inr ?_, ?_⟩
                  · obtain ⟨_, _, h5, _⟩ := HC.out
                    have := h5 b ho
                    omega
                  · obtain ⟨_, _, h5, _⟩ := HC.out
                    have := h5 b ho
                    omega
                  · have h6 : w3.heap.size ≤ w9.heap.size := hk9.size
                    omega
          · obtain rfl : i = L.length := by omega
            have hT : L.take L.length = L := List.take_of_length_le (by omega)
            rw [hT] at HC
            obtain ⟨C', c', hv, h2, h3⟩ := HC.out.shape
            injection hv with hv1 _ hv2
            subst hv1 hv2
            have hTl : (capsL (L.take L.length)).length = (capsL L).length := by rw [hT]
            go_wp2_with fail
            go_ret
            exact ⟨_, _, by first | rfl | (rw [← hTl]; rfl), h2, h3.mono fun b _ hb => by omega, HKR.out⟩
      · have n2 : (proto == 2) = false := by simpa using h2
        have e : linesL proto ls body = [] := by unfold linesL; rw [if_neg (by omega), if_neg (by omega), if_neg (by omega)]
        rw [e] at hL
        have hr1 : Reads w S (some ⟨w.heap.size + 1, 0, none⟩) 0 (strs L) := by rw [← hL]; exact Reads.nil _ _ _
        have hkl : L.length = 0 := by rw [← hL]; rfl
        go_wp2_with fail
        obtain ⟨C, hC⟩ : ∃ C : Option Addr, some (⟨w.heap.size + 1, 0, none⟩ : Addr) = C := ⟨_, rfl⟩
        rw [hC] at hr1
        rw [hC]
        clear hC
        go_loopg [6, 7, 8] 0 (fun gk v6 v7 v8 wr => OfS w g L C 0 gk v6 v7 wr)
        case atStart =>
          have hg := HG0.out
          have hm0 := CapsO.made0 ((w.alloc (.cells #[.string code, .slice A n c, .slice B m d] 25)).alloc (.cells #[] 9)) (fun b => g ≤ b) (by show g ≤ _; rw [World.size_alloc, World.size_alloc]; omega)
          rw [World.size_alloc, World.size_alloc] at hm0
          refine ⟨0, Nat.zero_le _, rfl, rfl, hm0, ?_, ((((Kept.refl w NoB).alloc _).alloc _).alloc _), by rw [World.size_alloc, World.size_alloc, World.size_alloc]; omega⟩
          exact ((((hr1.mono fun b hb _ => (by omega : b < g)).alloc _).alloc _).alloc _)
        case round =>
          obtain ⟨i, hi, hgk, rfl, hcap, hrd, hkr, hgw⟩ := hrel
          have HG := Lib.hid hgk
          have HKR := Lib.hid hkr
          have HRD := Lib.hid hrd
          have HC := Lib.hid hcap
          obtain ⟨CA, cc, hv5, _, _⟩ := hcap.shape
          subst hv5
          have hcl : (capsL (L.take i)).length ≤ 1099511627 := by
            have := capsL_len (L.take i)
            rw [List.length_take] at this
            omega
          clear hgk hkr hrd hcap
          rcases Nat.lt_or_ge i (0) with hlt | hge
          · exact absurd hlt (by omega)
          · obtain rfl : i = 0 := by omega
            have hT : L.take 0 = L := List.take_of_length_le (by omega)
            rw [hT] at HC
            obtain ⟨C', c', hv, h2, h3⟩ := HC.out.shape
            injection hv with hv1 _ hv2
            subst hv1 hv2
            have hTl : (capsL (L.take 0)).length = (capsL L).length := by rw [hT]
            go_wp2_with fail
            go_ret
            exact ⟨_, _, by first | rfl | (rw [← hTl]; rfl), h2, h3.mono fun b _ hb => by omega, HKR.out⟩
end Go.Proofs.YtgohpjjamciadaaDoor
