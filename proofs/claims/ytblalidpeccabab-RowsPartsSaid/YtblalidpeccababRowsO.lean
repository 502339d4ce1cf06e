/- SameEvents of a list and itself; RowsThree: its walk. -/
import Derived.Test.YtblalidpeccababRowsN
import Derived.Test.YtblalidpeccababOpen
namespace Go.Proofs.Ytblalidpeccabab.Rw
open Go Go.RowKit Go.Lib Go.Proofs.YtblalidpeccababW.PrintWords Go.Proofs.YtblalidpeccababW.PrintLast Go.Proofs.YtblalidpeccababW.PrintMore Go.Proofs.Ytblalidpeccabab.PRowsThree Go.Proofs.Ytblalidpeccabab.Bs Go.Proofs.Ytblalidpeccabab.RegionVal
set_option linter.unusedVariables false
set_option linter.unusedSimpArgs false

theorem sameEv_l0 (l : List S53) (hl : l.length ≤ 200) : ∀ k i : Nat, l.length < k + i → i ≤ l.length → backstitchref4_SameEvents.l0 k l l (i : Int) = some true
  | 0, i, h, h2 => by omega
  | k + 1, i, h, h2 => by
    unfold backstitchref4_SameEvents.l0
    by_cases hi : (i : Int) < (l.length : Int)
    · rw [if_pos hi, if_pos (by omega), if_pos hi]
      have hw : wrap64 ((i : Int) + 1) = ((i + 1 : Nat) : Int) := by unfold wrap64; omega
      rw [hw]
      have ih := sameEv_l0 l hl k (i + 1) (by omega) (by omega)
      simpa using ih
    · rw [if_neg hi]
theorem sameEv_f (l : List S53) (hl : l.length ≤ 200) : backstitchref4_SameEvents.f 300 l l = some true := by
  unfold backstitchref4_SameEvents.f
  rw [if_pos rfl]
  exact sameEv_l0 l hl 300 0 (by omega) (by omega)
theorem sameEv_calls (w : World) (A0 A1 : Option Addr) (c0 c1 : Nat) (l : List S53) (h0 : Kd.C k53 w A0 l.length l) (hc0 : l.length ≤ c0) (h1 : Kd.C k53 w A1 l.length l) (hc1 : l.length ≤ c1) (hl : l.length ≤ 200) :
    Calls Try.prog 21 #[.slice A0 l.length c0, .slice A1 l.length c1] w fun e w' => e = .returned (.bool true) ∧ Below w.heap.size w w' :=
  (backstitchref4_SameEvents.calls 300 A0 c0 l A1 c1 l true w h0 hc0 h1 hc1 (sameEv_f l hl)).mono fun e w' ⟨h1, h2⟩ => ⟨h1, h2.below⟩
theorem mrg_len (l m : List S53) : (mrg ky l m).length = l.length + m.length := by
  induction l, m using mrg.induct ky with
  | case1 m => rw [mrg_nil_left]; simp
  | case2 l h => rw [mrg_nil_right]; simp
  | case3 x l y m h ih => rw [mrg_cons, if_pos h, List.length_cons, ih]; simp only [List.length_cons]; omega
  | case4 x l y m h ih => rw [mrg_cons, if_neg h, List.length_cons, ih]; simp only [List.length_cons]; omega
theorem merged_len {l m : List S53} {r : Int} {x : List S53} (h : Merged l m r x) : x.length ≤ 200 := by
  rcases h with ⟨_, h, _⟩ | ⟨_, h, _⟩ | ⟨_, h1, h2, _, h3⟩
  · rw [h]; simp
  · rw [h]; simp
  · rw [h3, mrg_len]; exact h1
theorem merged_ok {l m : List S53} {x : List S53} (h : Merged l m 0 x) : Srt ky l ∧ Srt ky m ∧ x = mrg ky l m ∧ l.length + m.length ≤ 200 := by
  rcases h with ⟨h, _⟩ | ⟨h, _⟩ | ⟨_, h1, h2, h4, h3⟩
  · exact absurd h (by decide)
  · exact absurd h (by decide)
  · exact ⟨h2, h4, h3, h1⟩

set_option maxHeartbeats 8000000 in
set_option maxRecDepth 100000 in
theorem rowsThree_walk (w : World) (A1 : Option Addr) (c1 : Nat) (l : List S53) (lc1 : l.length ≤ c1) (h1 : Kd.C k53 w A1 l.length l) (A2 : Option Addr) (c2 : Nat) (m : List S53) (lc2 : m.length ≤ c2) (h2 : Kd.C k53 w A2 m.length m) (A3 : Option Addr) (c3 : Nat) (n : List S53) (lc3 : n.length ≤ c3) (h3 : Kd.C k53 w A3 n.length n)
    (b1 : l.length ≤ 140737488351232) (b2 : m.length ≤ 140737488351232) (b3 : n.length ≤ 140737488351232) :
    Calls Try.prog 8 #[.slice A1 l.length c1, .slice A2 m.length c2, .slice A3 n.length c3] w fun e w' => e = .returned (.bool true) ∧ Below w.heap.size w w' := by
  have H1 := Aside0.mk h1
  have H2 := Aside0.mk h2
  have H3 := Aside0.mk h3
  clear h1 h2 h3
  go_enter Try.func8, Try.ntmps8
  go_wp2_with fail
  refine (begun_calls _).mono ?_
  rintro e w1 ⟨rfl, hb⟩
  have HB1 := Aside0.mk hb
  clear hb
  go_wp2_with fail
  refine (merge_calls _ A1 A2 c1 c2 l m (Kd.C_below H1.out HB1.out) (Kd.C_below H2.out HB1.out) lc1 lc2 b1 b2).mono ?_
  rintro e w2 ⟨va, r1, a, rfl, hO, hb, hM⟩
  have HB2 := Aside0.mk (below_then HB1.out HB1.out.size hb)
  have HM1 := Aside0.mk hM
  obtain ⟨Aa, ca, rfl, hca, hCa⟩ := Kd.R_reads hO
  have HCa := Aside0.mk hCa
  clear hb hM hO hCa HB1
  go_wp2_with fail
  refine (merge_calls _ A2 A3 c2 c3 m n (Kd.C_below H2.out HB2.out) (Kd.C_below H3.out HB2.out) lc2 lc3 b2 b3).mono ?_
  rintro e w3 ⟨vb, r2, b, rfl, hO, hb, hM⟩
  have HB3 := Aside0.mk (below_then HB2.out HB2.out.size hb)
  have HM2 := Aside0.mk hM
  have HCa3 := Aside0.mk (Kd.C_below HCa.out hb)
  obtain ⟨Ab, cb, rfl, hcb, hCb⟩ := Kd.R_reads hO
  have HCb := Aside0.mk hCb
  clear hb hM hO hCb HB2 HCa
  go_wp2_with fail
  refine (merge_calls _ Aa A3 ca c3 a n HCa3.out (Kd.C_below H3.out HB3.out) hca lc3 (by have := merged_len HM1.out; omega) b3).mono ?_
  rintro e w4 ⟨vx, r3, x, rfl, hO, hb, hM⟩
  have HB4 := Aside0.mk (below_then HB3.out HB3.out.size hb)
  have HM3 := Aside0.mk hM
  have HCb4 := Aside0.mk (Kd.C_below HCb.out hb)
  obtain ⟨Ax, cx, rfl, hcx, hCx⟩ := Kd.R_reads hO
  have HCx := Aside0.mk hCx
  clear hb hM hO hCx HB3 HCb HCa3
  go_wp2_with fail
  refine (merge_calls _ A1 Ab c1 cb l b (Kd.C_below H1.out HB4.out) HCb4.out lc1 hcb b1 (by have := merged_len HM2.out; omega)).mono ?_
  rintro e w5 ⟨vy, r4, y, rfl, hO, hb, hM⟩
  have HB5 := Aside0.mk (below_then HB4.out HB4.out.size hb)
  have HM4 := Aside0.mk hM
  have HCx5 := Aside0.mk (Kd.C_below HCx.out hb)
  obtain ⟨Ay, cy, rfl, hcy, hCy⟩ := Kd.R_reads hO
  have HCy := Aside0.mk hCy
  clear hb hM hO hCy HB4 HCx HCb4
  have hd : (r1 = 0 ∧ r2 = 0 ∧ r3 = 0 ∧ r4 = 0) ∨ r1 ≠ 0 ∨ (r1 = 0 ∧ r2 ≠ 0) ∨ (r1 = 0 ∧ r2 = 0 ∧ r3 ≠ 0) ∨ (r1 = 0 ∧ r2 = 0 ∧ r3 = 0 ∧ r4 ≠ 0) := by omega
  rcases hd with ⟨rfl, rfl, rfl, rfl⟩ | h | ⟨rfl, h⟩ | ⟨rfl, rfl, h⟩ | ⟨rfl, rfl, rfl, h⟩
  · obtain ⟨s1, s2, s3, _⟩ := merged_ok HM1.out
    obtain ⟨t1, t2, t3, _⟩ := merged_ok HM2.out
    obtain ⟨u1, u2, u3, _⟩ := merged_ok HM3.out
    obtain ⟨v1, v2, v3, _⟩ := merged_ok HM4.out
    have hxy : y = x := by rw [u3, v3, s3, t3, mrg_three s1 s2 t2]
    have hxl := merged_len HM3.out
    clear s1 s2 s3 t1 t2 t3 u1 u2 u3 v1 v2 v3
    subst hxy
    go_wp2_with fail
    refine (begun_calls _).mono ?_
    rintro e w6 ⟨rfl, hb⟩
    have HB6 := Aside0.mk (below_then HB5.out HB5.out.size hb)
    have HCx6 := Aside0.mk (Kd.C_below HCx5.out hb)
    have HCy6 := Aside0.mk (Kd.C_below HCy.out hb)
    clear hb HB5 HCx5 HCy
    go_wp2_with fail
    refine (sameEv_calls _ Ax Ay cx cy y HCx6.out hcx HCy6.out hcy hxl).mono ?_
    rintro e w7 ⟨rfl, hb⟩
    have HB7 := Aside0.mk (below_then HB6.out HB6.out.size hb)
    clear hb
    go_wp2
    exact bodyPost_ret (v := .bool true) (by simp [results, Try.f8, go_sem]) rfl ⟨rfl, HB7.out⟩
  all_goals
    go_wp2_with fail
    refine (begun_calls _).mono ?_
    rintro e w6 ⟨rfl, hb⟩
    have HB6 := Aside0.mk (below_then HB5.out HB5.out.size hb)
    clear hb HB5
    go_wp2
    exact bodyPost_ret (v := .bool true) (by simp [results, Try.f8, go_sem]) rfl ⟨rfl, HB6.out⟩
end Go.Proofs.Ytblalidpeccabab.Rw
