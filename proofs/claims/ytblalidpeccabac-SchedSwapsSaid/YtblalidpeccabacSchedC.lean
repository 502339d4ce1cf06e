/- append of one number to a row that stays; sched.Nth: its walk. -/
import Derived.Test.YtblalidpeccabacSchedB
import Derived.ArgAppend
namespace Go.Proofs.Ytblalidpeccabac.Sd
open Go Go.RowKit Go.Lib Go.Proofs.YtblalidpeccabacW.PrintWords Go.Proofs.YtblalidpeccabacW.PrintLast Go.Proofs.YtblalidpeccabacW.PrintMore Go.Proofs.Ytblalidpeccabac.PSchedBack Go.Proofs.Ytblalidpeccabac.Bs
set_option linter.unusedVariables false
set_option linter.unusedSimpArgs false
attribute [local go_sem] max2_int min2_int max_two min_two

/-- append(xs, y) where xs goes on to be used -/
theorem IR.app {w : World} {base g n c : Nat} {xs : List Int} (h : IR w base g n c xs) (ad : Addr) (y : Int) (hy : w.cell? ad = some (.int .i64 y)) (hn : n ≤ 100000) :
    ∃ A c1 w1, Sem.run Try.prog (Builtin.append_ #[23, 23] 23 #[.slice (some ⟨g, 0, none⟩) n c, .slice (some ad) 1 1]) w = .ok (.slice A (n + 1) c1) w1 ∧ n + 1 ≤ c1 ∧ Kd.C kI w1 A (n + 1) (xs ++ [y]) ∧ IR w1 base g n c xs ∧ w.grownBy w1 (some g) := by
  have hlen := h.len
  obtain ⟨i0, hi, hz0, hz1, hz2⟩ := info_parts infoInt
  have hnews : ∀ j u, [Value.int .i64 y][j]? = some u → w.cell? (ad.add j) = some u := fun j u hj => by
    match j, hj with
    | 0, hj => rw [show ad.add 0 = ad from rfl, hy]; simpa using hj
  obtain ⟨inner, hown⟩ := Kd.R_own h
  have hinner : inner = nums .i64 xs := by
    have h2 := (Kd.own_of_R (enc := Value.int .i64) h).2
    rcases hown.2 with ⟨hv, _⟩ | ⟨g', cap', cur, hv, hb, hh, hnc, hcm, hcs, htk⟩
    · cases hv
    · rcases h2 with ⟨hv2, _⟩ | ⟨g2, cap2, cur2, hv2, hb2, hh2, _, _, _, htk2⟩
      · cases hv2
      · injection hv with ha _ _
        injection ha with ha; injection ha with ha
        injection hv2 with ha2 _ _
        injection ha2 with ha2; injection ha2 with ha2
        rw [← ha] at hh
        rw [← ha2, hh] at hh2
        injection hh2 with hh2; injection hh2 with hh2
        rw [← hh2] at htk2
        exact htk.symm.trans htk2
  rcases hown.2 with ⟨hv, _⟩ | ⟨g', cap', cur, hv, hb, hh, hnc, hcm, hcs, htk⟩
  · cases hv
  injection hv with ha hb' hc'
  injection ha with ha
  injection ha with hg'
  subst hg'; subst hc'
  have hcs1 : cur.size = c := by rw [hcs]; exact Nat.mul_one c
  have HTK : cur.toList.take n = nums .i64 xs := by
    have e0 : xs.length * kI.sz = n := by rw [hlen]; exact Nat.mul_one _
    rw [e0] at htk
    exact htk.trans hinner
  by_cases hroom : n + 1 ≤ c
  · obtain ⟨cur', k1, k2, k3⟩ := setCells_row [Value.int .i64 y] n w cur hh (by rw [hcs1]; exact hroom)
    have hrun := run_append_room_cells (P := Try.prog) w 23 23 3 i0 Try.underlying23 hi g 0 n c ad 1 1 [Value.int .i64 y] (by rw [hz1]; rfl) hnews (fun u hu => by rw [List.mem_singleton.1 hu]; rfl) hroom
      (fun j hj => by
        have hj0 : j = 0 := by simpa using hj
        rw [hz1, hj0, blk_cell hh]
        simp
        omega)
      (fun j hj => blk_frozen hh _)
    rw [hz1, Nat.mul_one, Nat.zero_add] at hrun
    have htk' : ∀ m, m ≤ n → (cur'.toList.take m) = cur.toList.take m := fun m hm => by
      rw [k3, List.append_assoc, List.take_append_of_le_length (by rw [List.length_take, Array.length_toList]; omega), List.take_take, Nat.min_eq_left hm]
    have hg1 : w.grownBy (w.setCells g n [Value.int .i64 y]) (some g) :=
      ⟨(setCells_same g _ _ _).1, (setCells_same g _ _ _).2.1, (setCells_same g _ _ _).2.2.1, Nat.le_of_eq (setCells_same g _ _ _).2.2.2.symm, fun k _ hne => setCells_far _ _ _ (fun e => hne (by rw [e]))⟩
    have hIR : IR (w.setCells g n [Value.int .i64 y]) base g n c xs := by
      refine R_int ⟨by simp [nums], .inr ⟨g, c, cur', by rw [hlen], hb, k1, by omega, hcm, by rw [k2, hcs1, Nat.mul_one], ?_⟩⟩
      rw [Nat.mul_one, ← hlen, htk' n (Nat.le_refl _)]
      exact HTK
    refine ⟨_, _, _, hrun, hroom, ?_, hIR, hg1⟩
    have hIR2 : IR (w.setCells g n [Value.int .i64 y]) base g (n + 1) c (xs ++ [y]) := by
      have e1 : n + 1 = (xs ++ [y]).length := by simp [hlen]
      refine R_int ⟨by simp [nums], .inr ⟨g, c, cur', by rw [e1], hb, k1, by omega, hcm, by rw [k2, hcs1, Nat.mul_one], ?_⟩⟩
      have e2 : cur.toList.take n = nums .i64 xs := by
        exact HTK
      have e3 : (nums .i64 xs ++ [Value.int .i64 y]).length = n + 1 := by simp [nums, hlen]
      have e5 : cur'.toList.take (n + 1) = nums .i64 (xs ++ [y]) := by
        rw [k3, e2]
        exact (List.take_left' e3).trans (by simp [nums])
      have e6 : (xs ++ [y]).length * 1 = n + 1 := by rw [Nat.mul_one]; exact e1.symm
      rw [e6]
      exact e5
    have := hIR2.C
    have e1 : n + 1 = (xs ++ [y]).length := by simp [hlen]
    rw [e1]
    exact this
  · have hrd := h.C
    obtain ⟨v', w', hrun, hown', hgr⟩ := run_append_arg_grows (P := Try.prog) w 23 23 3 i0 (.int .i64 0) 1 8 Try.underlying23 hi hz0 hz1 hz2 rfl (by decide) ⟨g, 0, none⟩ n c (nums .i64 xs) (by simp [nums, hlen]) (fun j u hj => by
        have hjl : j < xs.length := by
          have := (List.getElem?_eq_some_iff.1 hj).1
          simpa [nums] using this
        rw [Addr.add_mid, Nat.zero_add, (h.cell j hjl).1, ← hj]
        simp [nums, hjl]) ad 1 1 [Value.int .i64 y] (by rfl) hnews (by omega) (by unfold maxLen; omega) (by omega)
    have e1 : n + 1 = (xs ++ [y]).length := by simp [hlen]
    have e2 : nums .i64 xs ++ [Value.int .i64 y] = nums .i64 (xs ++ [y]) := by simp [nums]
    rw [e1, e2] at hown'
    obtain ⟨A, c1, rfl, hc1, hC⟩ := own_rd hown'
    refine ⟨A, c1, w', ?_, by rw [e1]; exact hc1, by rw [e1]; exact C_int hC, ?_, ⟨hgr.1, hgr.2, hgr.3, hgr.size, fun k hk _ => hgr.block k hk (by simp)⟩⟩
    · rw [e1]; exact hrun
    · exact Kd.R_grown h hgr (fun k _ => by simp)
end Go.Proofs.Ytblalidpeccabac.Sd
