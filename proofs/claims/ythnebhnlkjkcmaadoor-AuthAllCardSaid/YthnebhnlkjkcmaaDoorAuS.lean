/- A greeting's stamp: what the reference tells. -/
import Derived.Test.YthnebhnlkjkcmaaDoorAuH
set_option linter.unusedVariables false
set_option linter.unusedSimpArgs false
namespace Go.Proofs.YthnebhnlkjkcmaaDoor
open Go.RowKit Go.Shelf

def SpS (w0 : World) (g : List UInt8) (n gk : Nat) (v4 v5 : Value) (wr : World) : Prop :=
  ∃ i, i ≤ n ∧ gk = n - i ∧ v5 = .int .i64 (i : Int) ∧ ((v4 = .int .i64 (-1) ∧ 60 ∉ g.take i) ∨ ∃ b a, v4 = .int .i64 (b.length : Int) ∧ g.take i = b ++ 60 :: a ∧ 60 ∉ b ∧ 62 ∉ a) ∧ w0 = wr
theorem sp_toNat {x : UInt8} {k : Nat} (h : x.toNat = k) (h2 : k < 256) : x = UInt8.ofNat k := by
  subst h
  simp
set_option maxHeartbeats 4000000 in
set_option maxRecDepth 100000 in
theorem refStamp_calls (w : World) (g : List UInt8) (hl : g.length ≤ 1099511627) :
    Calls Tryd.prog 16 #[.string (strB g)] w fun en w' => en = .returned (stR (stampL g)) ∧ w = w' := by
  obtain ⟨B, hB⟩ : ∃ B, strB g = B := ⟨_, rfl⟩
  obtain ⟨n, hn⟩ : ∃ n, g.length = n := ⟨_, rfl⟩
  have hsz : B.size = n := by rw [← hB, strB_size, hn]
  have hget : ∀ j, (h : j < g.length) → ∀ h' : j < B.size, (B[j]'h').toNat = g[j].toNat := fun j h h' => by subst hB; rw [strB_getI]
  have hcut : ∀ f k, B.extract f k = strB ((g.drop f).take (k - f)) := fun f k => by rw [← hB, strB_cut]
  obtain ⟨r, hr⟩ : ∃ r, stampL g = r := ⟨_, rfl⟩
  rw [hB, hr]
  have HN := Lib.hid hn
  have HGET := Lib.hid hget
  have HCUT := Lib.hid hcut
  have HR := Lib.hid hr
  rw [hn] at hl
  clear hB hn hget hcut hr
  go_enter Tryd.func16, Tryd.ntmps16
  go_wp2_with fail
  go_loopg [4, 5] n (fun gk v4 v5 wr => SpS w g n gk v4 v5 wr)
  case atStart => exact ⟨0, Nat.zero_le _, rfl, rfl, .inl ⟨rfl, by simp⟩, rfl⟩
  case round =>
    obtain ⟨i, hi, hgk, rfl, hst, rfl⟩ := hrel
    have HG := Lib.hid hgk
    clear hgk
    rcases Nat.lt_or_ge i n with hlt | hge
    · have hil : i < g.length := by rw [HN.out]; exact hlt
      have y0 : i < B.size := by rw [hsz]; exact hlt
      have ti : (i : Int) < (n : Int) := by omega
      have htk := List.take_succ_eq_append_getElem hil
      have hdr : g = g.take i ++ g[i] :: g.drop (i + 1) := by rw [← List.drop_eq_getElem_cons hil, List.take_append_drop]
      have hlen : (g.take i).length = i := by rw [List.length_take]; omega
      obtain ⟨x, hx⟩ : ∃ x : Nat, g[i].toNat = x := ⟨_, rfl⟩
      have i0 : (B[i]'y0).toNat = x := (HGET.out i hil y0).trans hx
      have hx8 : x < 256 := by rw [← hx]; exact UInt8.toNat_lt _
      obtain ⟨y, hy⟩ : ∃ y, g[i] = y := ⟨_, rfl⟩
      rw [hy] at htk hdr hx
      have hyx := sp_toNat hx hx8
      have HTK := Lib.hid htk
      have HDR := Lib.hid hdr
      have HLE := Lib.hid hlen
      have HYX := Lib.hid hyx
      clear hx htk hdr hy hlen hyx hil
      rcases hst with ⟨rfl, h60⟩ | ⟨b, a, rfl, hba, hb, ha⟩
      · have H60 := Lib.hid h60
        clear h60
        by_cases q60 : x = 60
        · subst q60
          have HM : Hid (g.take (i + 1) = g.take i ++ 60 :: []) := Lib.hid (by rw [HTK.out, HYX.out]; rfl)
          go_wp2_with fail
          go_roundg (n - (i + 1))
          case measure => have := HG.out; omega
          case rel => exact ⟨i + 1, hlt, rfl, by go_num, .inr ⟨g.take i, [], by rw [HLE.out], HM.out, H60.out, by simp⟩, rfl⟩
        · have t60 : ((x : Int) == 60) = false := by rw [beq_eq_false_iff_ne]; omega
          have HM : Hid (60 ∉ g.take (i + 1)) := Lib.hid (by
            rw [HTK.out, HYX.out]
            intro h
            rcases List.mem_append.1 h with h | h
            · exact H60.out h
            · have h2 := congrArg UInt8.toNat (List.mem_singleton.1 h)
              rw [UInt8.toNat_ofNat', show x % 2 ^ 8 = x from Nat.mod_eq_of_lt hx8] at h2
              exact q60 h2.symm)
          by_cases q62 : x = 62
          · subst q62
            clear q60
            go_wp2_with fail
            go_roundg (n - (i + 1))
            case measure => have := HG.out; omega
            case rel => exact ⟨i + 1, hlt, rfl, by go_num, .inl ⟨rfl, HM.out⟩, rfl⟩
          · have t62 : ((x : Int) == 62) = false := by rw [beq_eq_false_iff_ne]; omega
            go_wp2_with fail
            go_roundg (n - (i + 1))
            case measure => have := HG.out; omega
            case rel => exact ⟨i + 1, hlt, rfl, by go_num, .inl ⟨rfl, HM.out⟩, rfl⟩
      · obtain ⟨f, hf⟩ : ∃ f, b.length = f := ⟨_, rfl⟩
        have hfi : f + 1 + a.length = i := by have := HLE.out; rw [hba, List.length_append, List.length_cons] at this; omega
        rw [hf]
        have t0 : ¬ (f : Int) < 0 := by omega
        have t0' : (0 : Int) ≤ (f : Int) := by omega
        have HBA := Lib.hid hba
        have HB60 := Lib.hid hb
        have HA62 := Lib.hid ha
        have HF := Lib.hid hf
        have HFI := Lib.hid hfi
        clear hba hb ha hf hfi
        by_cases q62 : x = 62
        · subst q62
          have hmade : r = if a = [] then none else some (60 :: (a ++ [62])) := by
            rw [← HR.out, HDR.out, HBA.out, HYX.out, List.append_assoc, List.cons_append]
            exact stampL_made HB60.out HA62.out
          by_cases hae : a = []
          · rw [if_pos hae] at hmade
            subst hmade
            have q : i = f + 1 := by have := HFI.out; rw [hae] at this; simpa using this.symm
            have qe : ((i : Int) == (f : Int) + 1) = true := by rw [beq_iff_eq]; omega
            clear hae
            subst q
            go_wp2_with fail
            go_ret2
            exact ⟨rfl, rfl⟩
          · rw [if_neg hae] at hmade
            subst hmade
            have hap : 0 < a.length := List.length_pos_iff.2 hae
            have q : f + 1 < i := by have := HFI.out; omega
            have qe : ((i : Int) == (f : Int) + 1) = false := by rw [beq_eq_false_iff_ne]; omega
            have tn : ((i : Int) + 1).toNat = i + 1 := by omega
            have tb : (f : Int) ≤ (i : Int) + 1 := by omega
            have tc : (i : Int) + 1 ≤ (n : Int) := by omega
            have hc : B.extract f (i + 1) = strB (60 :: (a ++ [62])) := by
              have hd := HDR.out
              rw [HBA.out, HYX.out, List.append_assoc, List.cons_append] at hd
              rw [HCUT.out, hd, ← HF.out, List.drop_left]
              have e : i + 1 - b.length = (60 :: (a ++ [62])).length := by rw [HF.out]; simp; have := HFI.out; omega
              rw [e, show (60 :: (a ++ UInt8.ofNat 62 :: g.drop (i + 1)) : List UInt8) = (60 :: (a ++ [62])) ++ g.drop (i + 1) by simp, List.take_left]
            clear hae hap q
            go_wp2_with fail
            go_ret2
            exact ⟨rfl, rfl⟩
        · have t62 : ((x : Int) == 62) = false := by rw [beq_eq_false_iff_ne]; omega
          have HM : Hid (g.take (i + 1) = b ++ 60 :: (a ++ [UInt8.ofNat x])) := Lib.hid (by rw [HTK.out, HBA.out, HYX.out, List.append_assoc]; rfl)
          have HA2 : Hid (62 ∉ a ++ [UInt8.ofNat x]) := Lib.hid (fun h => by
            rcases List.mem_append.1 h with h | h
            · exact HA62.out h
            · have h2 := congrArg UInt8.toNat (List.mem_singleton.1 h)
              rw [UInt8.toNat_ofNat', show x % 2 ^ 8 = x from Nat.mod_eq_of_lt hx8] at h2
              exact q62 h2.symm)
          by_cases q60 : x = 60
          · subst q60
            clear q62
            go_wp2_with fail
            go_roundg (n - (i + 1))
            case measure => have := HG.out; omega
            case rel => exact ⟨i + 1, hlt, rfl, by go_num, .inr ⟨b, _, by rw [HF.out], HM.out, HB60.out, HA2.out⟩, rfl⟩
          · have t60 : ((x : Int) == 60) = false := by rw [beq_eq_false_iff_ne]; omega
            go_wp2_with fail
            go_roundg (n - (i + 1))
            case measure => have := HG.out; omega
            case rel => exact ⟨i + 1, hlt, rfl, by go_num, .inr ⟨b, _, by rw [HF.out], HM.out, HB60.out, HA2.out⟩, rfl⟩
    · obtain rfl : i = n := by omega
      have ti : ¬ (i : Int) < (i : Int) := by omega
      have hres : r = none := by
        rw [← HR.out]
        have e : g.take i = g := List.take_of_length_le (by rw [HN.out]; exact Nat.le_refl _)
        rw [e] at hst
        rcases hst with ⟨_, h⟩ | ⟨b, a, _, h1, h2, h3⟩
        · exact stampL_none h
        · rw [h1]; exact stampL_open h2 h3
      subst hres
      rcases hst with ⟨rfl, _⟩ | ⟨b, a, rfl, _, _, _⟩
      all_goals
        go_wp2_with fail
        go_ret2
        exact ⟨rfl, rfl⟩
end Go.Proofs.YthnebhnlkjkcmaaDoor
