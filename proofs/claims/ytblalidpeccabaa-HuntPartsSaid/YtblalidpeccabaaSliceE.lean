/- slice.listed: its walk. -/
import Derived.Test.YtblalidpeccabaaSliceD
namespace Go.Proofs.Ytblalidpeccabaa.Sm
open Go Go.RowKit Go.Lib Go.Proofs.YtblalidpeccabaaW.PrintWords Go.Proofs.YtblalidpeccabaaW.PrintLast Go.Proofs.YtblalidpeccabaaW.PrintMore Go.Proofs.Ytblalidpeccabaa.PHuntParts Go.Proofs.Ytblalidpeccabaa.Sc Go.Proofs.Ytblalidpeccabaa.Bs
set_option linter.unusedVariables false
set_option linter.unusedSimpArgs false

theorem own_keep {W W1 : World} {B e size n : Nat} {v : Value} {xs : List Value} (h : W.ownsRow B e size v n xs) (hb : Below W.heap.size W W1) : W1.ownsRow B e size v n xs := by
  refine own_other h (row := none) ⟨hb.os, hb.tape, hb.output, hb.size, fun k hk _ => hb.block k hk⟩ ?_
  by_cases hv : v.ownBlock = none
  · exact .inl hv
  · exact .inr hv
theorem any_all (els : List Lies) (i : Nat) : els.any (fun x => !x.xs.getD i false) = !(els.map (·.xs)).all (fun inn => inn.getD i false) := by
  rw [List.all_map]
  induction els with
  | nil => rfl
  | cons x els ih =>
    rw [List.any_cons, List.all_cons, ih]
    simp [Bool.not_and]

set_option maxHeartbeats 8000000 in
set_option maxRecDepth 100000 in
theorem listed_calls (w : World) (n : Nat) (g : Nat) (T : TypeId) (els : List Lies) (hn : n ≤ 200) (hm : els.length ≤ 1000) (hr : w.heap[g]? = some (.cells (els.map encL).toArray T (0, 0)))
    (he : ∀ x ∈ els, Kd.C Kd.bool w x.at_ x.xs.length x.xs ∧ x.xs.length = n) :
    Calls Try.prog 29 #[.int .i64 (n : Int), .slice (some ⟨g, 0, none⟩) els.length els.length] w fun e w' => ∃ v, e = .returned v ∧
      w'.ownsRow w.heap.size 3 1 v (listed n (els.map (·.xs))).length (nums .i64 (listed n (els.map (·.xs)))) ∧ Below w.heap.size w w' := by
  have HR := Aside0.mk hr
  have HE := Aside0.mk he
  clear hr he
  go_enter Try.func29, Try.ntmps29
  go_wp2_with fail
  go_loopw [4, 7] (fun v i wr => ∃ k : Nat, k ≤ n ∧ i = .int .i64 (k : Int) ∧ Aside0 (wr.ownsRow w.heap.size 3 1 v (listed k (els.map (·.xs))).length (nums .i64 (listed k (els.map (·.xs))))) ∧ Aside0 (Below w.heap.size w wr)) (fun _ i _ => n - (intOf i).toNat)
  case atStart => exact ⟨0, Nat.zero_le _, rfl, ⟨World.ownsRow_nil _ _ _ _⟩, ⟨Below.refl _ _⟩⟩
  case round =>
    obtain ⟨k, hk, rfl, HO, HB⟩ := hrel
    by_cases hlt : k < n
    · have hk1 : (k : Int) < (n : Int) := by omega
      have HLS := Aside0.mk (listed_succ k (els.map (·.xs)))
      have HLL := Aside0.mk (listed_length k (els.map (·.xs)))
      go_wp2_with fail
      have hW : Below wr.heap.size wr (wr.alloc (.cells #[.int .i64 (k : Int)] 3)) := below_alloc (Below.refl _ _) _
      have hb0 := below_then HB.out HB.out.size hW
      refine (containsB_calls _ g T els 41 #[.pointer (some ⟨wr.heap.size, 0, none⟩)] (fun x => !x.xs.getD k false) hm (blk_below HR.out hb0)
        (listed1_asks _ wr.heap.size k els (by omega) (heap_alloc_new wr _) (fun x hx => ⟨Kd.C_below (HE.out x hx).1 hb0, by rw [(HE.out x hx).2]; exact hlt⟩))).mono ?_
      rintro e w2 ⟨rfl, hb⟩
      have HB2 := Aside0.mk (below_then HB.out HB.out.size (below_then hW hW.size hb))
      have HO2 := Aside0.mk (own_keep HO.out (below_then hW hW.size hb))
      have hcell : w2.cell? ⟨wr.heap.size, 0, none⟩ = some (.int .i64 (k : Int)) := by
        have := blk_cell (blk_below (heap_alloc_new wr (.cells #[.int .i64 (k : Int)] 3)) hb) 0
        simpa using this
      rw [any_all]
      clear hb hW hb0
      generalize hL : listed k (els.map (·.xs)) = L at HO2 HLS HLL
      have HL := Aside0.mk hL
      clear hL HO
      cases hp : (els.map (·.xs)).all (fun inn => inn.getD k false) with
      | true =>
        have HX := Aside0.mk (show listed (k + 1) (els.map (·.xs)) = L ++ [(k : Int)] by rw [HLS.out, if_pos hp])
        clear hp
        go_wp2_with (at_builtin; refine print_append_row (w0 := w) w.heap.size rfl _ _ 31 3 .i64 8 rfl Try.underlying31 infoInt (by decide) _ L [(k : Int)] _ 1 1 rfl rfl (own_keep HO2.out (below_alloc (Below.refl _ _) _)) (reads_lit _ [(k : Int)] (by simp) _) (below_alloc HB2.out _) (below_alloc HB2.out _).size (by have := HLL.out; omega) ?_; intro v1 w3 hown hB hg hat; have HO3 := Aside0.mk hown; have HB3 := Aside0.mk hB; clear hown hB hg hat)
        go_roundw
        case rel => exact ⟨k + 1, by omega, by go_num, ⟨by rw [HX.out]; exact HO3.out⟩, HB3⟩
        case measure => simp [intOf]; omega
      | false =>
        have HX := Aside0.mk (show listed (k + 1) (els.map (·.xs)) = L by rw [HLS.out, if_neg (by rw [hp]; decide), List.append_nil])
        clear hp
        go_wp2
        go_roundw
        case rel => exact ⟨k + 1, by omega, by go_num, ⟨by rw [HX.out]; exact HO2.out⟩, HB2⟩
        case measure => simp [intOf]; omega
    · have hk' : k = n := by omega
      subst hk'
      go_wp2
      go_ret
      exact ⟨_, rfl, HO.out, HB.out⟩
end Go.Proofs.Ytblalidpeccabaa.Sm
