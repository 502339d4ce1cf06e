/- slice.check: its walk. -/
import Derived.Test.YtblalidpeccabaaSliceA
namespace Go.Proofs.Ytblalidpeccabaa.Sm
open Go Go.RowKit Go.Lib Go.Proofs.YtblalidpeccabaaW.PrintWords Go.Proofs.YtblalidpeccabaaW.PrintLast Go.Proofs.YtblalidpeccabaaW.PrintMore Go.Proofs.Ytblalidpeccabaa.PHuntParts Go.Proofs.Ytblalidpeccabaa.Sc
set_option linter.unusedVariables false
set_option linter.unusedSimpArgs false

def us (l : List S35) : List (List Int) := l.map (·.f0)
theorem us_length (l : List S35) : (us l).length = l.length := by simp [us]
theorem use_us {l : List S35} {k : Nat} (h : k < l.length) : use (us l) k = l[k].f0 := by simp [use, us, List.getD_eq_getElem?_getD, h]
def badUse (k : Nat) (n : Int) : Bool := decide (n < 0) || decide ((k : Int) ≤ n)
def formK (xss : List (List Int)) (k : Nat) : Bool := !(use xss k).any (badUse k)
def formB (xss : List (List Int)) : Bool := (List.range xss.length).all (formK xss)
theorem formB_iff (xss : List (List Int)) : formB xss = true ↔ Sc.Form xss := by
  unfold formB Sc.Form formK
  rw [List.all_eq_true]
  constructor
  · intro h k hk n hn
    have := h k (List.mem_range.2 hk)
    rw [Bool.not_eq_true', List.any_eq_false] at this
    have := this n hn
    simp only [badUse, Bool.or_eq_true, decide_eq_true_eq, not_or] at this
    omega
  · intro h k hk
    rw [Bool.not_eq_true', List.any_eq_false]
    intro n hn
    have := h k (List.mem_range.1 hk) n hn
    simp only [badUse, Bool.or_eq_true, decide_eq_true_eq, not_or]
    omega
def badPlace (len : Nat) (n : Int) : Bool := decide (n < 0) || decide ((len : Int) ≤ n)
def chk (xss : List (List Int)) (ps : List Int) : Int := if 200 < xss.length then 2 else if formB xss = false then 3 else if ps.any (badPlace xss.length) = true then 1 else 0
theorem chk_zero {xss : List (List Int)} {ps : List Int} : chk xss ps = 0 ↔ xss.length ≤ 200 ∧ Sc.Form xss ∧ ∀ n ∈ ps, 0 ≤ n ∧ n < (xss.length : Int) := by
  unfold chk
  by_cases h1 : 200 < xss.length
  · rw [if_pos h1]; simp; omega
  · rw [if_neg h1]
    by_cases h2 : formB xss = false
    · rw [if_pos h2]
      have : ¬ Sc.Form xss := fun h => by rw [(formB_iff xss).2 h] at h2; cases h2
      simp [this]
    · rw [if_neg h2]
      have hf := (formB_iff xss).1 (by simpa using h2)
      by_cases h3 : ps.any (badPlace xss.length) = true
      · rw [if_pos h3]
        obtain ⟨n, hn, hb⟩ := List.any_eq_true.1 h3
        simp only [badPlace, Bool.or_eq_true, decide_eq_true_eq] at hb
        constructor
        · intro h; cases h
        · rintro ⟨_, _, h⟩; have := h n hn; omega
      · rw [if_neg h3]
        refine ⟨fun _ => ⟨by omega, hf, fun n hn => ?_⟩, fun _ => rfl⟩
        rw [Bool.not_eq_true, List.any_eq_false] at h3
        have := h3 n hn
        simp only [badPlace, Bool.or_eq_true, decide_eq_true_eq, not_or] at this
        omega

set_option maxHeartbeats 8000000 in
set_option maxRecDepth 100000 in
theorem check_calls (w : World) (A : Option Addr) (c : Nat) (l : List S35) (B : Option Addr) (d : Nat) (ps : List Int) (hr : Kd.C k35 w A l.length l) (hc : l.length ≤ c) (hp : Kd.C (Kd.int .i64) w B ps.length ps) (hd : ps.length ≤ d) :
    Calls Try.prog 28 #[.slice A l.length c, .slice B ps.length d] w fun e w' => e = .returned (.int .i64 (chk (us l) ps)) ∧ Below w.heap.size w w' := by
  have hn : l.length ≤ 9223372036854775807 := hr.2.1
  have hm : ps.length ≤ 9223372036854775807 := hp.2.1
  have HR := Aside0.mk hr
  have HP := Aside0.mk hp
  clear hr hp
  go_enter Try.func28, Try.ntmps28
  by_cases hl : (200 : Int) < (l.length : Int)
  · have HX := Aside0.mk (show chk (us l) ps = 2 by unfold chk; rw [us_length, if_pos (by omega)])
    go_wp2
    go_ret
    exact ⟨by rw [HX.out]; rfl, Below.refl _ _⟩
  · go_wp2_with fail
    go_loopw [14] (fun i wr => ∃ k : Nat, k ≤ l.length ∧ i = .int .i64 (k : Int) ∧ Aside0 (∀ j, j < k → formK (us l) j = true) ∧ Aside0 (Below w.heap.size w wr)) (fun i _ => l.length - (intOf i).toNat)
    case atStart => exact ⟨0, Nat.zero_le _, rfl, ⟨fun j hj => absurd hj (by omega)⟩, ⟨Below.refl _ _⟩⟩
    case round =>
      obtain ⟨k, hk, rfl, HF, HB⟩ := hrel
      by_cases hlt : k < l.length
      · have hk1 : (k : Int) < (l.length : Int) := by omega
        obtain ⟨ad, A0, c0, rfl, h0, hl0, hC0⟩ := at_T35 (Kd.C_below HR.out HB.out) (k : Int) (by omega) (by omega)
        have hrd : rd_T35 l (k : Int) = l[k] := by simp [rd_T35, List.getD_eq_getElem?_getD, hlt]
        rw [hrd] at h0 hl0 hC0
        rw [Int.toNat_natCast] at h0
        obtain ⟨xs, hxs⟩ : ∃ xs, xs = l[k].f0 := ⟨_, rfl⟩
        rw [← hxs] at h0 hl0 hC0
        have HU := Aside0.mk (show use (us l) k = xs by rw [use_us hlt, hxs])
        have HC0 := Aside0.mk hC0
        clear hrd hxs hC0
        go_wp2_with fail
        have hW : Below wr.heap.size wr ((wr.alloc (.cells #[.int .i64 (k : Int)] 3)).alloc (.cells #[.slice A0 xs.length c0] 35)) := below_alloc (below_alloc (Below.refl _ _) _) _
        refine (containsI_calls _ A0 c0 xs 39 #[.pointer (some ⟨wr.heap.size, 0, none⟩)] (badUse k) (Kd.C_below HC0.out hW) hl0 (check1_asks _ wr.heap.size (k : Int) xs (blk_alloc (heap_alloc_new wr _) _))).mono ?_
        rintro e w2 ⟨rfl, hb⟩
        have HB2 := Aside0.mk (below_then HB.out HB.out.size (below_then hW hW.size hb))
        clear hb hW
        cases hp : xs.any (badUse k) with
        | true =>
          have HX := Aside0.mk (show chk (us l) ps = 3 by
            unfold chk
            rw [us_length, if_neg (by omega), if_pos]
            rw [← Bool.not_eq_true, formB, List.all_eq_true]
            intro h
            have := h k (List.mem_range.2 (by rw [us_length]; exact hlt))
            rw [formK, HU.out, hp] at this
            cases this)
          clear hp
          go_wp2
          go_ret
          exact ⟨by rw [HX.out]; rfl, HB2.out⟩
        | false =>
          have HX := Aside0.mk (show formK (us l) k = true by rw [formK, HU.out, hp]; rfl)
          clear hp
          go_wp2
          go_roundw
          case rel => exact ⟨k + 1, by omega, by go_num, ⟨fun j hj => by
            by_cases e : j = k
            · subst e; exact HX.out
            · exact HF.out j (by omega)⟩, HB2⟩
          case measure => simp [intOf]; omega
      · have hk' : k = l.length := by omega
        subst hk'
        have HFB := Aside0.mk (show formB (us l) = true by
          rw [formB, List.all_eq_true]
          intro j hj
          exact HF.out j (by rw [← us_length]; exact List.mem_range.1 hj))
        go_wp2_with fail
        go_loopw [26] (fun i wr => ∃ q : Nat, q ≤ ps.length ∧ i = .int .i64 (q : Int) ∧ Aside0 (∀ j (hj : j < q) (hj' : j < ps.length), badPlace l.length ps[j] = false) ∧ Aside0 (Below w.heap.size w wr)) (fun i _ => ps.length - (intOf i).toNat)
        case atStart => exact ⟨0, Nat.zero_le _, rfl, ⟨fun j hj => absurd hj (by omega)⟩, HB⟩
        case round =>
          obtain ⟨q, hq, rfl, HQ, HBq⟩ := hrel
          by_cases hqt : q < ps.length
          · have hq1 : (q : Int) < (ps.length : Int) := by omega
            obtain ⟨ad, rfl, h0⟩ := Kd.at_int (Kd.C_below HP.out HBq.out) (q : Int) (by omega) (by omega)
            have hrd : rd ps (q : Int) = ps[q] := by simp [rd, List.getD_eq_getElem?_getD, hqt]
            rw [hrd, Int.toNat_natCast] at h0
            have HMEM := Aside0.mk (show ps[q] ∈ ps from List.getElem_mem _)
            obtain ⟨z, hz⟩ : ∃ z, z = ps[q] := ⟨_, rfl⟩
            rw [← hz] at h0 HMEM
            have HZ := Aside0.mk hz
            clear hz hrd
            have bad : badPlace l.length z = true → chk (us l) ps = 1 := by
              intro hbz
              unfold chk
              rw [us_length, if_neg (by omega), if_neg (by rw [HFB.out]; decide), if_pos (List.any_eq_true.2 ⟨z, HMEM.out, hbz⟩)]
            have BAD := Aside0.mk bad
            clear bad
            by_cases hz0 : z < 0
            · have HX := Aside0.mk (BAD.out (by simp [badPlace, hz0]))
              go_wp2
              go_ret
              exact ⟨by rw [HX.out]; rfl, HBq.out⟩
            · by_cases hz1 : (l.length : Int) ≤ z
              · have HX := Aside0.mk (BAD.out (by simp [badPlace, hz1]))
                go_wp2
                go_ret
                exact ⟨by rw [HX.out]; rfl, HBq.out⟩
              · have HX := Aside0.mk (show badPlace l.length z = false by simp [badPlace]; omega)
                go_wp2
                go_roundw
                case rel => exact ⟨q + 1, by omega, by go_num, ⟨fun j hj hj' => by
                  by_cases e : j = q
                  · subst e; rw [← HZ.out]; exact HX.out
                  · exact HQ.out j (by omega) hj'⟩, HBq⟩
                case measure => simp [intOf]; omega
          · have hq' : q = ps.length := by omega
            subst hq'
            have HX := Aside0.mk (show chk (us l) ps = 0 by
              unfold chk
              rw [us_length, if_neg (by omega), if_neg (by rw [HFB.out]; decide), if_neg]
              rw [Bool.not_eq_true, List.any_eq_false]
              intro x hx
              obtain ⟨j, hj, rfl⟩ := List.getElem_of_mem hx
              rw [HQ.out j hj hj]; decide)
            go_wp2
            go_ret
            exact ⟨by rw [HX.out]; rfl, HBq.out⟩
end Go.Proofs.Ytblalidpeccabaa.Sm
