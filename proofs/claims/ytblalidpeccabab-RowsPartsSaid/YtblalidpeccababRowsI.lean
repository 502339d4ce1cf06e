/- slices.stable, slices.SortStableFunc of events: their walks. -/
import Derived.Test.YtblalidpeccababRowsH
namespace Go.Proofs.Ytblalidpeccabab.Rw
open Go Go.RowKit Go.Lib Go.Proofs.YtblalidpeccababW.PrintWords Go.Proofs.YtblalidpeccababW.PrintLast Go.Proofs.YtblalidpeccababW.PrintMore Go.Proofs.Ytblalidpeccabab.PRowsThree Go.Proofs.Ytblalidpeccabab.Bs Go.Proofs.Ytblalidpeccabab.RegionVal
set_option linter.unusedVariables false
set_option linter.unusedSimpArgs false

/-- blocks of k that are sorted -/
def Blk (k : Nat) (L : List S53) : Prop := ∀ i, Srt ky ((L.drop (i * k)).take k)
theorem blk_nil (k : Nat) : Blk k [] := fun i => by simp [Srt.nil]
theorem blk_snoc {K t : Nat} {Z S : List S53} (hZ : Z.length = t * K) (hb : Blk K Z) (hS : Srt ky S) (hl : S.length ≤ K) : Blk K (Z ++ S) := fun i => by
  rcases Nat.lt_trichotomy i t with h | h | h
  · have h1 : (i + 1) * K ≤ Z.length := by rw [hZ]; exact Nat.mul_le_mul_right K h
    rw [Nat.succ_mul] at h1
    rw [List.drop_append_of_le_length (by omega), List.take_append_of_le_length (by rw [List.length_drop]; omega)]
    exact hb i
  · subst h
    rw [← hZ, List.drop_append_of_le_length (Nat.le_refl _), List.drop_length, List.nil_append, List.take_of_length_le hl]
    exact hS
  · have h1 : (t + 1) * K ≤ i * K := Nat.mul_le_mul_right K h
    rw [Nat.succ_mul] at h1
    rw [List.drop_eq_nil_of_le (by rw [List.length_append]; omega), List.take_nil]
    exact Srt.nil
theorem blk_all {k : Nat} {L : List S53} (h : Blk k L) (hl : L.length ≤ k) : Srt ky L := by
  have := h 0
  rwa [Nat.zero_mul, List.drop_zero, List.take_of_length_le hl] at this
theorem drop_split (Y : List S53) (a k : Nat) : Y.drop a = (Y.drop a).take k ++ Y.drop (a + k) := by
  rw [← List.drop_drop, List.take_append_drop]
theorem take_split (Y : List S53) (a k : Nat) : Y.take (a + k) = Y.take a ++ (Y.drop a).take k := List.take_add

set_option maxHeartbeats 8000000 in
set_option maxRecDepth 100000 in
theorem stable_calls (w : World) (base g n c : Nat) (X : List S53) (h : RE w base g n c X) (hn : n ≤ 200) :
    Calls Try.prog 69 #[.slice (some ⟨g, 0, none⟩) n c, .int .i64 (n : Int), .func (.func 55) #[] #[]] w fun e w' => e = .returned (.tuple #[]) ∧ ∃ X', Srt ky X' ∧ Sam ky X X' ∧ RE w' base g n c X' ∧ w.grownBy w' (some g) := by
  have HL := Aside0.mk h.len
  have H := Aside0.mk h
  clear h
  go_enter Try.func69, Try.ntmps69
  go_wp2_with fail
  go_loopw [7, 8] (fun va vb wr => ∃ (a b t : Nat) (Y : List S53), va = .int .i64 (a : Int) ∧ vb = .int .i64 (b : Int) ∧ a ≤ n ∧ b ≤ 220 ∧ Aside0 (b = a + 20 ∧ Y.length = t * 20 ∧ Y.length = a) ∧ Aside0 (Blk 20 Y ∧ Sam ky (X.take a) Y) ∧ Aside0 (RE wr base g n c (Y ++ X.drop a)) ∧ Aside0 (w.grownBy wr (some g))) (fun va _ _ => n - (intOf va).toNat)
  case atStart => exact ⟨0, 20, 0, [], rfl, rfl, Nat.zero_le _, by omega, ⟨rfl, rfl, rfl⟩, ⟨blk_nil _, Sam.rfl'⟩, ⟨by simpa using H.out⟩, ⟨gb_below _ (Below.refl _ _)⟩⟩
  case round =>
    obtain ⟨a, b, t, Y, rfl, rfl, han, hb220, HK, HY, HR, HG⟩ := hrel
    by_cases hlt : b ≤ n
    · have hbn : (b : Int) ≤ (n : Int) := by omega
      have hins := insertion_calls wr base g n c Y ((X.drop a).take 20) (X.drop (a + 20)) (by rw [List.append_assoc, ← drop_split]; exact HR.out) hn a b HK.out.2.2.symm (by rw [List.length_take, List.length_drop]; have := HK.out; have := HL.out; omega)
      have HINS := Aside0.mk hins
      clear hins
      go_wp2_with fail
      refine HINS.out.mono ?_
      rintro e w6 ⟨rfl, S, hs, hm, hR, hg⟩
      have HG2 := Aside0.mk (gb_trans HG.out hg)
      have hl1 := HR.out.len
      have hl2 := hR.len
      simp only [List.length_append, List.length_drop] at hl1 hl2
      have hS20 : S.length = 20 := by have := HK.out; have := HL.out; omega
      have HYS := Aside0.mk (show Blk 20 (Y ++ S) ∧ Sam ky (X.take b) (Y ++ S) ∧ (Y ++ S).length = (t + 1) * 20 ∧ (Y ++ S).length = b by
        have hk := HK.out
        refine ⟨blk_snoc hk.2.1 HY.out.1 hs (by omega), ?_, by rw [List.length_append]; omega, by rw [List.length_append]; omega⟩
        rw [hk.1, take_split]
        exact HY.out.2.app hm)
      have HR2 := Aside0.mk (show RE w6 base g n c (Y ++ S ++ X.drop b) by rw [HK.out.1]; exact hR)
      have HB := Aside0.mk HK.out.1
      clear hR hg hs hm hl1 hl2 hS20 HINS
      go_wp2
      go_roundw
      case rel => exact ⟨b, b + 20, t + 1, Y ++ S, rfl, by go_num, hlt, by omega, ⟨rfl, HYS.out.2.2.1, HYS.out.2.2.2⟩, ⟨HYS.out.1, HYS.out.2.1⟩, HR2, HG2⟩
      case measure => have := HB.out; simp [intOf]; omega
    · have hins := insertion_calls wr base g n c Y (X.drop a) [] (by rw [List.append_nil]; exact HR.out) hn a n HK.out.2.2.symm (by rw [List.length_drop]; have := HK.out; have := HL.out; omega)
      have HINS := Aside0.mk hins
      have hnb : n < b := by omega
      clear hins
      go_wp2_with fail
      refine HINS.out.mono ?_
      rintro e w6 ⟨rfl, S, hs, hm, hR, hg⟩
      have HG2 := Aside0.mk (gb_trans HG.out hg)
      have hl1 := HR.out.len
      have hl2 := hR.len
      simp only [List.length_append, List.length_drop, List.length_nil] at hl1 hl2
      have HY0 := Aside0.mk (show Blk 20 (Y ++ S) ∧ Sam ky X (Y ++ S) ∧ (Y ++ S).length = n by
        have hk := HK.out
        refine ⟨blk_snoc hk.2.1 HY.out.1 hs (by omega), ?_, by rw [List.length_append]; omega⟩
        have h3 := HY.out.2.app hm
        rwa [List.take_append_drop] at h3)
      have HR0 := Aside0.mk (show RE w6 base g n c (Y ++ S) by rw [List.append_nil] at hR; exact hR)
      clear hR hg hs hm hl1 hl2 HINS HR HY HK hnb hlt
      generalize Y ++ S = Y0 at HY0 HR0
      go_wp2_with fail
      go_loopw [6] (fun vk wq => ∃ (k : Nat) (Y : List S53), vk = .int .i64 (k : Int) ∧ 0 < k ∧ k ≤ 400 ∧ Aside0 (Blk k Y ∧ Sam ky X Y ∧ Y.length = n) ∧ Aside0 (RE wq base g n c Y) ∧ Aside0 (w.grownBy wq (some g))) (fun vk _ => 400 - (intOf vk).toNat)
      case atStart => exact ⟨20, Y0, rfl, by omega, by omega, HY0, HR0, HG2⟩
      case round =>
        obtain ⟨k, Y, rfl, hk0, hk400, HY, HR, HG⟩ := hrel
        by_cases hlt : k < n
        · have hkn : (k : Int) < (n : Int) := by omega
          have hR00 := Aside0.mk (show RE wr base g n c ([] ++ Y.drop 0) by simpa using HR.out)
          go_wp2_with fail
          go_loopw [7, 8] (fun va vb wq => ∃ (a b t : Nat) (Z : List S53), va = .int .i64 (a : Int) ∧ vb = .int .i64 (b : Int) ∧ a ≤ n ∧ b ≤ 1000 ∧ Aside0 (b = a + 2 * k ∧ Z.length = t * (2 * k) ∧ Z.length = a) ∧ Aside0 (Blk (2 * k) Z ∧ Sam ky (Y.take a) Z) ∧ Aside0 (RE wq base g n c (Z ++ Y.drop a)) ∧ Aside0 (w.grownBy wq (some g))) (fun va _ _ => n - (intOf va).toNat)
          case atStart => exact ⟨0, 2 * k, 0, [], rfl, by go_num, Nat.zero_le _, by omega, ⟨by omega, by simp, rfl⟩, ⟨blk_nil _, Sam.rfl'⟩, hR00, HG⟩
          case round =>
            obtain ⟨a, b, t, Z, rfl, rfl, han, hb1000, HK, HZ, HR, HG⟩ := hrel
            have HA2 := Aside0.mk (show a = (2 * t) * k ∧ a + k = (2 * t + 1) * k by
              have h1 := HK.out.2.1
              have h2 := HK.out.2.2
              have e1 : t * (2 * k) = 2 * t * k := by rw [← Nat.mul_assoc, Nat.mul_comm t 2]
              have e2 : (2 * t + 1) * k = 2 * t * k + k := Nat.succ_mul _ _
              omega)
            have HU := Aside0.mk (show Srt ky ((Y.drop a).take k) by have h := HY.out.1 (2 * t); rw [← HA2.out.1] at h; exact h)
            have HV := Aside0.mk (show Srt ky ((Y.drop (a + k)).take k) by have h := HY.out.1 (2 * t + 1); rw [← HA2.out.2] at h; exact h)
            obtain ⟨m, hm⟩ : ∃ m, m = a + k := ⟨_, rfl⟩
            have HMM := Aside0.mk hm
            have hw1 : IntKind.i64.wrap ((a : Int) + (k : Int)) = (m : Int) := by rw [IntKind.wrap_i64]; omega
            clear hm
            by_cases hb : b ≤ n
            · have hbn : (b : Int) ≤ (n : Int) := by omega
              have hsym := symMerge_calls 400 wr base g n c Z ((Y.drop a).take k) ((Y.drop (a + k)).take k) (Y.drop b) (by
                have h := HR.out
                rw [drop_split Y a k, drop_split Y (a + k) k, show a + k + k = b by have := HK.out; omega] at h
                simpa only [List.append_assoc] using h) hn HU.out HV.out (by rw [List.length_take, List.length_drop]; have := HY.out.2.2; have := HK.out; omega) (by rw [List.length_take, List.length_drop]; have := HY.out.2.2; have := HK.out; omega) (by rw [List.length_take, List.length_take]; omega) a m b HK.out.2.2.symm (by rw [List.length_take, List.length_drop]; have := HY.out.2.2; have := HK.out; have := HMM.out; omega) (by rw [List.length_take, List.length_take, List.length_drop, List.length_drop]; have := HY.out.2.2; have := HK.out; omega)
              have HSYM := Aside0.mk hsym
              clear hsym
              go_wp2_with fail
              refine HSYM.out.mono ?_
              rintro e w6 ⟨rfl, S, hs, hm, hR, hg⟩
              have HG2 := Aside0.mk (gb_trans HG.out hg)
              have hl2 := hR.len
              simp only [List.length_append, List.length_drop] at hl2
              have hS20 : S.length = 2 * k := by have := HK.out; have := HY.out.2.2; omega
              have HYS := Aside0.mk (show Blk (2 * k) (Z ++ S) ∧ Sam ky (Y.take b) (Z ++ S) ∧ (Z ++ S).length = (t + 1) * (2 * k) ∧ (Z ++ S).length = b by
                have hk := HK.out
                refine ⟨blk_snoc hk.2.1 HZ.out.1 hs (by omega), ?_, by rw [List.length_append, Nat.succ_mul]; omega, by rw [List.length_append]; omega⟩
                rw [show b = a + k + k by omega, take_split, take_split, List.append_assoc]
                exact HZ.out.2.app hm)
              have HR2 := Aside0.mk hR
              have HB := Aside0.mk HK.out.1
              have hb2 : b ≤ 200 := by omega
              clear hR hg hs hm hl2 hS20 HSYM hw1
              go_wp2
              go_roundw
              case rel => exact ⟨b, b + 2 * k, t + 1, Z ++ S, rfl, by go_num, hb, by omega, ⟨rfl, HYS.out.2.2.1, HYS.out.2.2.2⟩, ⟨HYS.out.1, HYS.out.2.1⟩, HR2, HG2⟩
              case measure => have := HB.out; simp [intOf]; omega
            · have hnb : n < b := by omega
              have hkk : IntKind.i64.wrap ((k : Int) * 2) = ((2 * k : Nat) : Int) := by rw [IntKind.wrap_i64]; omega
              by_cases hmn : m < n
              · have hmn1 : (m : Int) < (n : Int) := by omega
                have HV2 := Aside0.mk (show Srt ky (Y.drop (a + k)) by have h := HV.out; rwa [List.take_of_length_le (by rw [List.length_drop]; have := HY.out.2.2; have := HK.out; omega)] at h)
                have hsym := symMerge_calls 400 wr base g n c Z ((Y.drop a).take k) (Y.drop (a + k)) [] (by
                  have h := HR.out
                  rw [drop_split Y a k] at h
                  simpa only [List.append_assoc, List.append_nil] using h) hn HU.out HV2.out (by rw [List.length_take, List.length_drop]; have := HY.out.2.2; have := HMM.out; omega) (by rw [List.length_drop]; have := HY.out.2.2; have := HMM.out; omega) (by rw [List.length_take, List.length_drop, List.length_drop]; have := HY.out.2.2; omega) a m n HK.out.2.2.symm (by rw [List.length_take, List.length_drop]; have := HY.out.2.2; have := HK.out; have := HMM.out; omega) (by rw [List.length_take, List.length_drop, List.length_drop]; have := HY.out.2.2; have := HK.out; have := HMM.out; omega)
                have HSYM := Aside0.mk hsym
                clear hsym
                go_wp2_with fail
                refine HSYM.out.mono ?_
                rintro e w6 ⟨rfl, S, hs, hm, hR, hg⟩
                have HG2 := Aside0.mk (gb_trans HG.out hg)
                have hl2 := hR.len
                simp only [List.length_append, List.length_nil] at hl2
                have HYS := Aside0.mk (show Blk (2 * k) (Z ++ S) ∧ Sam ky X (Z ++ S) ∧ (Z ++ S).length = n by
                  have hk := HK.out
                  refine ⟨blk_snoc hk.2.1 HZ.out.1 hs (by omega), ?_, by rw [List.length_append]; omega⟩
                  refine HY.out.2.1.trans ?_
                  have h3 := HZ.out.2.app hm
                  rw [← drop_split, List.take_append_drop] at h3
                  exact h3)
                have HR2 := Aside0.mk (show RE w6 base g n c (Z ++ S) by rw [List.append_nil] at hR; exact hR)
                clear hR hg hs hm hl2 HSYM hw1
                go_wp2
                go_roundw
                case rel => exact ⟨2 * k, Z ++ S, by go_num, by omega, by omega, HYS, HR2, HG2⟩
                case measure => simp [intOf]; omega
              · have hmn1 : n ≤ m := by omega
                have HYS := Aside0.mk (show Blk (2 * k) (Z ++ Y.drop a) ∧ Sam ky X (Z ++ Y.drop a) ∧ (Z ++ Y.drop a).length = n by
                  have hk := HK.out
                  have hy := HY.out.2.2
                  have hm := HMM.out
                  have hs : Srt ky (Y.drop a) := by have h := HU.out; rwa [List.take_of_length_le (by rw [List.length_drop]; omega)] at h
                  refine ⟨blk_snoc hk.2.1 HZ.out.1 hs (by rw [List.length_drop]; omega), ?_, by rw [List.length_append, List.length_drop]; omega⟩
                  refine HY.out.2.1.trans ?_
                  have h3 := HZ.out.2.app (Sam.rfl' (key := ky) (a := Y.drop a))
                  rwa [List.take_append_drop] at h3)
                go_wp2
                go_roundw
                case rel => exact ⟨2 * k, Z ++ Y.drop a, by go_num, by omega, by omega, HYS, HR, HG⟩
                case measure => simp [intOf]; omega
        · have HS := Aside0.mk (blk_all HY.out.1 (by have := HY.out.2.2; omega))
          have hnk : n ≤ k := by omega
          go_wp2
          exact bodyPost_end (v := .tuple #[]) (results_none rfl _ _ _) rfl ⟨rfl, Y, HS.out, HY.out.2.1, HR.out, HG.out⟩
set_option maxHeartbeats 8000000 in
set_option maxRecDepth 100000 in
theorem sortStable_calls (w : World) (base g n c : Nat) (X : List S53) (h : RE w base g n c X) (hn : n ≤ 200) :
    Calls Try.prog 57 #[.slice (some ⟨g, 0, none⟩) n c, .func (.func 55) #[] #[]] w fun e w' => e = .returned (.tuple #[]) ∧ ∃ X', Srt ky X' ∧ Sam ky X X' ∧ RE w' base g n c X' ∧ w.grownBy w' (some g) := by
  have HS := Aside0.mk (stable_calls w base g n c X h hn)
  clear h
  go_enter Try.func57, Try.ntmps57
  go_wp2_with fail
  refine HS.out.mono ?_
  rintro e w2 ⟨rfl, X', h1, h2, h3, h4⟩
  have H := Aside0.mk (And.intro h1 (And.intro h2 (And.intro h3 h4)))
  clear h1 h2 h3 h4
  go_wp2
  exact bodyPost_end (v := .tuple #[]) (results_none rfl _ _ _) rfl ⟨rfl, X', H.out.1, H.out.2.1, H.out.2.2.1, H.out.2.2.2⟩
end Go.Proofs.Ytblalidpeccabab.Rw
