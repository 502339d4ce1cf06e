/- slices.SortStableFunc of no events; rows.Merge: its walk. -/
import Derived.Test.YtblalidpeccababRowsI
import Derived.Test.YtblalidpeccababRowsK
namespace Go.Proofs.Ytblalidpeccabab.Rw
open Go Go.RowKit Go.Lib Go.Proofs.YtblalidpeccababW.PrintWords Go.Proofs.YtblalidpeccababW.PrintLast Go.Proofs.YtblalidpeccababW.PrintMore Go.Proofs.Ytblalidpeccabab.PRowsThree Go.Proofs.Ytblalidpeccabab.Bs Go.Proofs.Ytblalidpeccabab.RegionVal
set_option linter.unusedVariables false
set_option linter.unusedSimpArgs false

set_option maxHeartbeats 8000000 in
set_option maxRecDepth 100000 in
theorem insertion_nil (w : World) : Calls Try.prog 75 #[.slice none 0 0, .int .i64 0, .int .i64 0, .func (.func 55) #[] #[]] w fun e w' => e = .returned (.tuple #[]) ∧ Below w.heap.size w w' := by
  go_enter Try.func75, Try.ntmps75
  go_wp2_with fail
  go_loopw [8] (fun vi wr => vi = .int .i64 1 ∧ Aside0 (Below w.heap.size w wr)) (fun _ _ => 0)
  case atStart => exact ⟨rfl, ⟨Below.refl _ _⟩⟩
  case round =>
    obtain ⟨rfl, HB⟩ := hrel
    go_wp2
    exact bodyPost_end (v := .tuple #[]) (results_none rfl _ _ _) rfl ⟨rfl, HB.out⟩
set_option maxHeartbeats 8000000 in
set_option maxRecDepth 100000 in
theorem stable_nil (w : World) : Calls Try.prog 69 #[.slice none 0 0, .int .i64 0, .func (.func 55) #[] #[]] w fun e w' => e = .returned (.tuple #[]) ∧ Below w.heap.size w w' := by
  go_enter Try.func69, Try.ntmps69
  go_wp2_with fail
  go_loopw [7, 8] (fun va vb wr => va = .int .i64 0 ∧ vb = .int .i64 20 ∧ Aside0 (Below w.heap.size w wr)) (fun _ _ _ => 0)
  case atStart => exact ⟨rfl, rfl, ⟨Below.refl _ _⟩⟩
  case round =>
    obtain ⟨rfl, rfl, HB⟩ := hrel
    go_wp2_with fail
    refine (insertion_nil _).mono ?_
    rintro e w6 ⟨rfl, hb⟩
    have HB2 := Aside0.mk (below_then HB.out HB.out.size hb)
    clear hb HB
    go_wp2_with fail
    go_loopw [6] (fun vk wq => vk = .int .i64 20 ∧ Aside0 (Below w.heap.size w wq)) (fun _ _ => 0)
    case atStart => exact ⟨rfl, HB2⟩
    case round =>
      obtain ⟨rfl, HB⟩ := hrel
      go_wp2
      exact bodyPost_end (v := .tuple #[]) (results_none rfl _ _ _) rfl ⟨rfl, HB.out⟩
set_option maxHeartbeats 8000000 in
set_option maxRecDepth 100000 in
theorem sortStable_nil (w : World) : Calls Try.prog 57 #[.slice none 0 0, .func (.func 55) #[] #[]] w fun e w' => e = .returned (.tuple #[]) ∧ Below w.heap.size w w' := by
  go_enter Try.func57, Try.ntmps57
  go_wp2_with fail
  refine (stable_nil _).mono ?_
  rintro e w2 ⟨rfl, hb⟩
  have HB := Aside0.mk hb
  clear hb
  go_wp2
  exact bodyPost_end (v := .tuple #[]) (results_none rfl _ _ _) rfl ⟨rfl, HB.out⟩
/-- sorting a row of one's own, be it empty or not -/
theorem sortOwn (w0 w : World) (v : Value) (X : List S53) (hB : Below w0.heap.size w0 w) (h : Own53 w0 w v X) (hn : X.length ≤ 200) :
    Calls Try.prog 57 #[v, .func (.func 55) #[] #[]] w fun e w' => e = .returned (.tuple #[]) ∧ ∃ X', Srt ky X' ∧ Sam ky X X' ∧ Own53 w0 w' v X' ∧ Below w0.heap.size w0 w' := by
  obtain ⟨inner, hown⟩ := Kd.R_own h
  rcases hown.2 with ⟨rfl, h0⟩ | ⟨g, cap, cur, rfl, hb, _⟩
  · obtain rfl := List.length_eq_zero_iff.1 h0
    refine (sortStable_nil w).mono ?_
    rintro e w' ⟨rfl, hb⟩
    exact ⟨rfl, [], Srt.nil, Sam.rfl', Kd.R_nil _ _ _ _ _, below_then hB hB.size hb⟩
  · refine (sortStable_calls w w0.heap.size g X.length cap X h hn).mono ?_
    rintro e w' ⟨rfl, X', h1, h2, h3, h4⟩
    have hl : X.length = X'.length := RE.len h3
    refine ⟨rfl, X', h1, h2, ?_, Below.grown hB h4 hB.size (fun k hk => by cases hk; exact hb)⟩
    exact h3

/-- what Merge tells -/
def Merged (l m : List S53) (r : Int) (x : List S53) : Prop :=
  (r = 2 ∧ x = [] ∧ 200 < l.length + m.length) ∨ (r = 3 ∧ x = [] ∧ l.length + m.length ≤ 200 ∧ ¬ (Srt ky l ∧ Srt ky m)) ∨ (r = 0 ∧ l.length + m.length ≤ 200 ∧ Srt ky l ∧ Srt ky m ∧ x = mrg ky l m)

theorem C_two (W : World) (A1 A2 : Option Addr) (c1 c2 : Nat) (l m : List S53) (h1 : Kd.C k53 W A1 l.length l) (h2 : Kd.C k53 W A2 m.length m) (hc1 : l.length ≤ c1) (hc2 : m.length ≤ c2) :
    Kd.C kE (W.alloc (.cells #[.slice A1 l.length c1, .slice A2 m.length c2] 44)) (some ⟨W.heap.size, 0, none⟩) [l, m].length [l, m] := by
  have hk := heap_alloc_new W (.cells #[.slice A1 l.length c1, .slice A2 m.length c2] 44)
  refine ⟨rfl, by simp, fun _ => ⟨_, rfl, fun j p hj => ?_⟩⟩
  match j, hj with
  | 0, hj =>
    obtain rfl := Option.some.inj hj
    refine ⟨[.slice A1 l.length c1], rfl, ⟨A1, c1, rfl, hc1, Kd.C_alloc h1 _⟩, fun i u hu => ?_⟩
    match i, hu with
    | 0, hu => obtain rfl := Option.some.inj hu; exact blk_cell hk 0
  | 1, hj =>
    obtain rfl := Option.some.inj hj
    refine ⟨[.slice A2 m.length c2], rfl, ⟨A2, c2, rfl, hc2, Kd.C_alloc h2 _⟩, fun i u hu => ?_⟩
    match i, hu with
    | 0, hu => obtain rfl := Option.some.inj hu; exact blk_cell hk 1

set_option maxHeartbeats 8000000 in
set_option maxRecDepth 100000 in
theorem merge_calls (w : World) (A1 A2 : Option Addr) (c1 c2 : Nat) (l m : List S53) (h1 : Kd.C k53 w A1 l.length l) (h2 : Kd.C k53 w A2 m.length m) (hc1 : l.length ≤ c1) (hc2 : m.length ≤ c2) (hl : l.length ≤ 140737488351232) (hm : m.length ≤ 140737488351232) :
    Calls Try.prog 20 #[.slice A1 l.length c1, .slice A2 m.length c2] w fun e w' => ∃ v r x, e = .returned (.tuple #[v, .int .i64 r]) ∧ Own53 w w' v x ∧ Below w.heap.size w w' ∧ Merged l m r x := by
  have H1 := Aside0.mk h1
  have H2 := Aside0.mk h2
  have HC := Aside0.mk (And.intro hc1 hc2)
  clear h1 h2 hc1 hc2
  have hw1 : IntKind.i64.wrap ((l.length : Int) + (m.length : Int)) = (l.length : Int) + (m.length : Int) := by rw [IntKind.wrap_i64]; omega
  by_cases hbig : 200 < l.length + m.length
  · have hb1 : (200 : Int) < (l.length : Int) + (m.length : Int) := by omega
    have HM := Aside0.mk (show Merged l m 2 [] from .inl ⟨rfl, rfl, hbig⟩)
    go_enter Try.func20, Try.ntmps20
    go_wp2
    exact bodyPost_ret (v := .tuple #[.slice none 0 0, .int .i64 2]) (by simp [results, Try.f20, go_sem]) rfl ⟨_, _, _, rfl, Kd.R_nil _ _ _ _ _, Below.refl _ _, HM.out⟩
  · have hb1 : (l.length : Int) + (m.length : Int) ≤ 200 := by omega
    have hle : l.length + m.length ≤ 200 := by omega
    have HL := Aside0.mk hle
    have HS1 := Aside0.mk (isSorted_calls w A1 c1 l H1.out (by omega))
    go_enter Try.func20, Try.ntmps20
    go_wp2_with fail
    refine HS1.out.mono ?_
    rintro e w1 ⟨⟨b, rfl, hb⟩, hB⟩
    have HB := Aside0.mk hB
    have HBB := Aside0.mk hb
    clear hB hb HS1
    cases b with
    | false =>
      have HM := Aside0.mk (show Merged l m 3 [] from .inr (.inl ⟨rfl, rfl, HL.out, fun h => Bool.false_ne_true (HBB.out.2 h.1)⟩))
      go_wp2
      exact bodyPost_ret (v := .tuple #[.slice none 0 0, .int .i64 3]) (by simp [results, Try.f20, go_sem]) rfl ⟨_, _, _, rfl, Kd.R_nil _ _ _ _ _, HB.out, HM.out⟩
    | true =>
      have HS2 := Aside0.mk (isSorted_calls w1 A2 c2 m (Kd.C_below H2.out HB.out) (by omega))
      go_wp2_with fail
      refine HS2.out.mono ?_
      rintro e w2 ⟨⟨b, rfl, hb⟩, hB⟩
      have HB2 := Aside0.mk (below_then HB.out HB.out.size hB)
      have HBB2 := Aside0.mk hb
      clear hB hb HS2 HB
      cases b with
      | false =>
        have HM := Aside0.mk (show Merged l m 3 [] from .inr (.inl ⟨rfl, rfl, HL.out, fun h => Bool.false_ne_true (HBB2.out.2 h.2)⟩))
        go_wp2
        exact bodyPost_ret (v := .tuple #[.slice none 0 0, .int .i64 3]) (by simp [results, Try.f20, go_sem]) rfl ⟨_, _, _, rfl, Kd.R_nil _ _ _ _ _, HB2.out, HM.out⟩
      | true =>
        have hSl : Srt ky l := HBB.out.1 (by simp)
        have hSm : Srt ky m := HBB2.out.1 (by simp)
        have HSS := Aside0.mk (And.intro hSl hSm)
        clear hSl hSm
        go_wp2_with fail
        refine (concat_calls _ _ 2 [l, m] (C_two w2 A1 A2 c1 c2 l m (Kd.C_below H1.out HB2.out) (Kd.C_below H2.out HB2.out) HC.out.1 HC.out.2) (by simp) (by simp; omega)).mono ?_
        rintro e w3 ⟨v, rfl, hown, hB⟩
        have hBa := below_alloc HB2.out (.cells #[Value.slice A1 l.length c1, Value.slice A2 m.length c2] 44)
        have HB3 := Aside0.mk (below_then hBa hBa.size hB)
        have hO : Own53 w w3 v (l ++ m) := by
          have h := Kd.R_lower hown hBa.size
          simpa using h
        have HO := Aside0.mk hO
        have HSO := Aside0.mk (sortOwn w w3 v (l ++ m) HB3.out hO (by rw [List.length_append]; exact HL.out))
        clear hO hB hBa hown HB2
        go_wp2_with fail
        refine HSO.out.mono ?_
        rintro e w4 ⟨rfl, X, hX1, hX2, hX3, hX4⟩
        have HX := Aside0.mk (And.intro hX3 hX4)
        have HM := Aside0.mk (show Merged l m 0 X from .inr (.inr ⟨rfl, HL.out, HSS.out.1, HSS.out.2, mrg_uniq HSS.out.1 HSS.out.2 hX1 hX2⟩))
        clear hX1 hX2 hX3 hX4 HSO
        go_wp2
        exact bodyPost_ret (v := .tuple #[v, .int .i64 0]) (by simp [results, Try.f20, go_sem]) rfl ⟨_, _, _, rfl, HX.out.1, HX.out.2, HM.out⟩
end Go.Proofs.Ytblalidpeccabab.Rw
