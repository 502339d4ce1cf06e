/- WatchBack: the call answers true, whatever comes in. -/
import Derived.Test.YtaeamehngbfneabWatchF
namespace Go.Proofs.Ytaeamehngbfneab.Wt
open Go Go.RowKit Go.Lib Go.Proofs.YtaeamehngbfneabW.PrintWords Go.Proofs.YtaeamehngbfneabW.PrintLast Go.Proofs.YtaeamehngbfneabW.PrintMore Go.Proofs.Ytaeamehngbfneab.Bs Go.Proofs.Ytaeamehngbfneab.PWatchBack Go.Proofs.Ytaeamehngbfneab.Wp Go.Proofs.Ytaeamehngbfneab.Open
set_option linter.unusedVariables false
set_option linter.unusedSimpArgs false

def plc (x y : Int) (l : List S33) (n : Nat) : List Int := (places (isW x y) l n).map (fun n : Nat => (n : Int))
theorem places_le {E : Type} (p : E → Bool) (l : List E) : ∀ n, (places p l n).length ≤ n
  | 0 => Nat.le_refl _
  | n + 1 => by
    have := places_le p l n
    simp only [places]
    cases l[n]? with
    | none => simp only; omega
    | some x => simp only; cases p x <;> simp <;> omega
theorem plc_le (x y : Int) (l : List S33) (n : Nat) : (plc x y l n).length ≤ n := by unfold plc; rw [List.length_map]; exact places_le _ _ _

theorem writes_loop (x y : Int) (l : List S33) (hl : l.length ≤ 200) : ∀ (d k i : Nat), i + d = l.length → d < k → watch_Writes.l0 k x y (plc x y l i) l (l.length : Int) (i : Int) = some (plc x y l l.length, 0)
  | 0, k, i, h, hk => by
    obtain ⟨k, rfl⟩ : ∃ m, k = m + 1 := ⟨k - 1, by omega⟩
    obtain rfl : i = l.length := by omega
    simp only [watch_Writes.l0]
    rw [if_neg (by omega)]
  | d + 1, k, i, h, hk => by
    obtain ⟨k, rfl⟩ : ∃ m, k = m + 1 := ⟨k - 1, by omega⟩
    have hi : i < l.length := by omega
    have hx : rd_T33 l (i : Int) = l[i] := by simp [rd_T33, List.getD_eq_getElem?_getD, hi]
    have hw : wrap64 ((i : Int) + 1) = ((i + 1 : Nat) : Int) := by unfold wrap64; omega
    have hp := plc_le x y l i
    simp only [watch_Writes.l0]
    rw [if_pos (by omega), if_pos (by omega), if_pos (by omega), hx, writes_is, hw]
    simp only [Option.bind_some]
    cases hz : isW x y l[i] with
    | true =>
      rw [if_pos rfl, if_pos (by omega)]
      have e : plc x y l i ++ [(i : Int)] = plc x y l (i + 1) := by unfold plc; rw [places_yes hi hz, List.map_append]; rfl
      rw [e]
      exact writes_loop x y l hl d k (i + 1) (by omega) (by omega)
    | false =>
      rw [if_neg (by simp)]
      have e : plc x y l i = plc x y l (i + 1) := by unfold plc; rw [places_no hi hz]
      rw [e]
      exact writes_loop x y l hl d k (i + 1) (by omega) (by omega)
theorem writes_f (x y : Int) (l : List S33) (hl : l.length ≤ 200) : watch_Writes.f 201 l x y = some (plc x y l l.length, 0) := by
  unfold watch_Writes.f
  rw [check_ok (by omega) (by omega) hl]
  simp only [Option.bind_some, if_true]
  exact writes_loop x y l hl l.length 201 0 (by omega) (by omega)
theorem writes_bad (x y : Int) (l : List S33) (hl : 200 < l.length) : watch_Writes.f 201 l x y = some ([], 2) := by
  unfold watch_Writes.f
  have : watch_check.f l 0 = some 2 := by unfold watch_check.f; rw [if_pos (by omega)]
  rw [this]
  simp only [Option.bind_some]
  rw [if_neg (by decide)]

/-- from a place back: where one comes to -/
theorem plc_back (x y : Int) (l : List S33) {a : Nat} (ha : a ≤ l.length) : (back (isW x y) l a = none ∧ plc x y l a = []) ∨ ∃ j, back (isW x y) l a = some j ∧ j < a ∧ plc x y l a = plc x y l j ++ [(j : Int)] := by
  rcases places_back (p := isW x y) (l := l) ha with ⟨h1, h2⟩ | ⟨j, h1, h2, h3⟩
  · exact .inl ⟨h1, by unfold plc; rw [h2]; rfl⟩
  · exact .inr ⟨j, h1, h2, by unfold plc; rw [h3, List.map_append]; rfl⟩

set_option maxHeartbeats 8000000 in
set_option maxRecDepth 100000 in
theorem watchBack_walk (w : World) (A : Option Addr) (c : Nat) (l : List S33) (lc : l.length ≤ c) (hr : Kd.C k33 w A l.length l) (_B : l.length ≤ 9223372036854775807 ∧ l.length * Try.prog.bytesOf 33 ≤ 140737488351232 ∧ ∀ a ∈ l, True)
    (x : Int) (hwf : (Lit.int .i64 x).wf = true) (y : Int) (hwf2 : (Lit.int .i64 y).wf = true) :
    Calls Try.prog 5 #[.slice A l.length c, .int .i64 x, .int .i64 y] w fun e w' => e = .returned (.bool true) ∧ Below w.heap.size w w' := by
  have hl0 := _B.1
  have HR := Aside0.mk hr
  clear hwf hwf2 _B hr
  go_enter Try.func5, Try.ntmps5
  go_wp2_with fail
  refine (begunC (Below.refl _ _)).mono ?_
  rintro e w1 ⟨rfl, hb⟩
  have HB1 := Aside0.mk hb; clear hb
  go_wp2_with fail
  by_cases hl : 200 < l.length
  · refine (watch_Writes.calls 201 A c l x y [] 2 _ (Kd.C_below HR.out HB1.out) lc (writes_bad x y l hl)).mono ?_
    rintro e w2 ⟨u, rfl, hR, hb⟩
    obtain ⟨A2, c2, rfl, -, -⟩ := Kd.R_reads hR
    have HB2 := Aside0.mk (below_then HB1.out HB1.out.size hb); clear hb hR
    go_wp2_with fail
    refine (begunC HB2.out).mono ?_
    rintro e w3 ⟨rfl, hb⟩
    have HB3 := Aside0.mk hb; clear hb
    go_wp2
    go_ret
    exact ⟨rfl, HB3.out⟩
  · refine (watch_Writes.calls 201 A c l x y (plc x y l l.length) 0 _ (Kd.C_below HR.out HB1.out) lc (writes_f x y l (by omega))).mono ?_
    rintro e w2 ⟨u, rfl, hR, hb⟩
    obtain ⟨A2, c2, rfl, hc2, hC2⟩ := Kd.R_reads hR
    have HB2 := Aside0.mk (below_then HB1.out HB1.out.size hb)
    have HR2 := Aside0.mk (Kd.reads_of_C (d := (0 : Int)) (h1 := fun _ => rfl) hC2)
    have hpl := plc_le x y l l.length
    clear hb hR hC2
    go_wp2
    go_loopw [9, 10, 11, 12, 13] (fun s9 s10 s11 s12 s13 wr => ∃ a : Nat, a ≤ l.length ∧ s9 = .int .i64 (a : Int) ∧ s10 = .int .i64 (((plc x y l a).length : Int) - 1) ∧ Aside0 (∃ r, plc x y l l.length = plc x y l a ++ r) ∧ Aside0 (Below w2.heap.size w2 wr)) (fun s9 _ _ _ _ _ => (intOf s9).toNat)
    case atStart => exact ⟨l.length, Nat.le_refl _, rfl, rfl, ⟨[], by simp⟩, ⟨Below.refl _ _⟩⟩
    case round =>
      obtain ⟨a, ha, rfl, rfl, HP, HB⟩ := hrel
      have HBw := Aside0.mk (below_then HB2.out HB2.out.size HB.out)
      rcases plc_back x y l ha with ⟨hb0, hp0⟩ | ⟨j, hb1, hj, hp1⟩
      · rw [hp0]
        have HN := Aside0.mk hb0
        clear hb0 hp0
        go_wp2_with fail
        refine (Last_calls _ A c l x y a (Kd.C_below HR.out HBw.out) lc ha (by omega)).mono ?_
        rintro e w3 ⟨rfl, hb⟩
        rw [HN.out]
        simp only [rOf, Option.getD_none, Option.isSome_none]
        have HB3 := Aside0.mk (below_then HBw.out HBw.out.size hb); clear hb
        go_wp2_with fail
        refine (begunC HB3.out).mono ?_
        rintro e w4 ⟨rfl, hb⟩
        have HB4 := Aside0.mk hb; clear hb
        go_wp2
        go_ret
        exact ⟨rfl, HB4.out⟩
      · have hpl1 := plc_le x y l j
        have hlen : ((plc x y l a).length : Int) - 1 = ((plc x y l j).length : Int) := by rw [hp1, List.length_append]; simp
        rw [hlen]
        obtain ⟨r, hrr⟩ := HP.out
        have hfull : plc x y l l.length = plc x y l j ++ ((j : Int) :: r) := by rw [hrr, hp1]; simp
        have hfl : (plc x y l j).length < (plc x y l l.length).length := by rw [hfull]; simp
        obtain ⟨ad, rfl, hcell⟩ := HR2.out.2.2 (by omega)
        have hc := hcell (plc x y l j).length hfl
        have hgd : (plc x y l l.length).getD (plc x y l j).length 0 = (j : Int) := by rw [hfull]; simp [List.getD_eq_getElem?_getD]
        rw [hgd] at hc
        have HCELL := Aside0.mk hc
        have HP' := Aside0.mk (show ∃ r, plc x y l l.length = plc x y l j ++ r from ⟨_, hfull⟩)
        have HN := Aside0.mk hb1
        obtain ⟨n, hn⟩ : ∃ n, n = (plc x y l j).length := ⟨_, rfl⟩
        have HNN := Aside0.mk hn
        rw [← hn] at hfl HCELL hpl1 ⊢
        obtain ⟨M, hM⟩ : ∃ M, M = (plc x y l l.length).length := ⟨_, rfl⟩
        rw [← hM] at hfl hpl ⊢
        clear hcell hc hgd hfull hrr hb1 hp1 hn hlen hM
        go_wp2_with fail
        refine (Last_calls _ A c l x y a (Kd.C_below HR.out HBw.out) lc ha (by omega)).mono ?_
        rintro e w3 ⟨rfl, hb⟩
        rw [HN.out]
        simp only [rOf, Option.getD_some, Option.isSome_some]
        have HB3 := Aside0.mk (below_then HB.out HB.out.size hb); clear hb
        have hc := (HB3.out.cell (World.block_lt_of_cell? w2 _ HCELL.out)).trans HCELL.out
        have z1 : (n : Int) < (M : Int) := by omega
        have z2 : ((j : Int) != (j : Int)) = false := by simp
        have z3 : decide ((j : Int) < (a : Int)) = true := decide_eq_true (by omega)
        have z4 : ¬ ((j : Int) ≥ (a : Int)) := by omega
        go_wp2
        go_roundw
        case rel => exact ⟨j, by omega, rfl, by rw [← HNN.out], HP', HB3⟩
        case measure => simp [intOf]; omega
end Go.Proofs.Ytaeamehngbfneab.Wt
