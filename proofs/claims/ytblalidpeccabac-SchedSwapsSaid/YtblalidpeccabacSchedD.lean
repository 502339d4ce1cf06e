/- sched.Nth: its walk. -/
import Derived.Test.YtblalidpeccabacSchedC
namespace Go.Proofs.Ytblalidpeccabac.Sd
open Go Go.RowKit Go.Lib Go.Proofs.YtblalidpeccabacW.PrintWords Go.Proofs.YtblalidpeccabacW.PrintLast Go.Proofs.YtblalidpeccabacW.PrintMore Go.Proofs.Ytblalidpeccabac.PSchedBack Go.Proofs.Ytblalidpeccabac.Bs
set_option linter.unusedVariables false
set_option linter.unusedSimpArgs false
attribute [local go_sem] max2_int min2_int max_two min_two

/-- whose step comes next, and what is left of the number -/
def pickF (K : Nat) : Nat → List Int → Int → Nat → Option (Nat × Int)
  | 0, _, _, _ => none
  | f + 1, l, n, k => if k < l.length then (withF K l k).bind fun x => if x ≤ n then pickF K f l (wrap64 (n - x)) (k + 1) else some (k, n) else none
/-- one step less of thread k -/
def less (l : List Int) (k : Nat) : List Int := l.set k (wrap64 (l.getD k 0 - 1))
def nthL (K : Nat) : Nat → List Int → List Int → Int → Option (List Int)
  | 0, _, _, _ => none
  | f + 1, l, out, n => if l.any (fun y => decide (0 < y)) then (pickF K K l n 0).bind fun x => if out.length ≤ 1000 then nthL K f (less l x.1) (out ++ [(x.1 : Int)]) x.2 else none else some out
/-- what Nth tells -/
def nthF (K : Nat) (parts : List Int) (n : Int) : Option (List Int × Int) :=
  (sched_right.f K parts).bind fun e => if e = 0 then (if n < 0 then some ([], 1) else (sched_count.f K parts).bind fun c => if c ≤ n then some ([], 1) else if parts.length ≤ 1000 then (nthL K K parts [] n).bind fun r => some (r, 0) else none) else some ([], e)

theorem wrapW (x : Int) : IntKind.i64.wrap x = wrap64 x := by rw [IntKind.wrap_i64]; unfold wrap64; omega
theorem less_is {l : List Int} {k : Nat} {y : Int} {hk : k < l.length} (hy : y = l[k]) : l.set k (wrap64 (y - 1)) = less l k := by unfold less; rw [getD_is hk, ← hy]
theorem own_far {w w1 : World} {bo g n : Nat} {v : Value} {xs : List Value} (h : w.ownsRow bo 3 1 v n xs) (hg : w.grownBy w1 (some g)) (hlt : g < bo) : w1.ownsRow bo 3 1 v n xs := by
  refine own_other h (row := some g) hg ?_
  by_cases hv : v.ownBlock = none
  · exact .inl hv
  · refine .inr fun e => ?_
    have := World.ownsRow.lt h g e
    omega
theorem own_lower {w : World} {base base' : Nat} {e : TypeId} {size : Nat} {v : Value} {n : Nat} {xs : List Value} (h : w.ownsRow base e size v n xs) (hb : base' ≤ base) : w.ownsRow base' e size v n xs := by
  obtain ⟨h1, h2⟩ := h
  refine ⟨h1, ?_⟩
  rcases h2 with h2 | ⟨g, cap, cur, e1, e2, e3⟩
  · exact .inl h2
  · exact .inr ⟨g, cap, cur, e1, Nat.le_trans hb e2, e3⟩
theorem own_ne {w : World} {bo g n : Nat} {v : Value} {xs : List Value} (h : w.ownsRow bo 3 1 v n xs) (hlt : g < bo) : v.ownBlock ≠ some g := fun e => by
  have := World.ownsRow.lt h g e
  omega
theorem own_keep {w w1 : World} {bo n : Nat} {v : Value} {xs : List Value} (h : w.ownsRow bo 3 1 v n xs) (hb : Below w.heap.size w w1) : w1.ownsRow bo 3 1 v n xs := by
  refine own_other h (row := none) ⟨hb.os, hb.tape, hb.output, hb.size, fun k hk _ => hb.block k hk⟩ ?_
  by_cases hv : v.ownBlock = none
  · exact .inl hv
  · exact .inr hv
theorem IR.below {w w1 : World} {base g n c : Nat} {xs : List Int} (h : IR w base g n c xs) (hb : Below w.heap.size w w1) : IR w1 base g n c xs := Kd.R_below h hb
theorem IR.far {w w1 : World} {base g n c : Nat} {xs : List Int} {row : Option Nat} (h : IR w base g n c xs) (hg : w.grownBy w1 row) (hne : row ≠ some g) : IR w1 base g n c xs := Kd.R_grown1 h rfl hg hne
theorem max_pos {l : List Int} {m : Int} (h : IsMax (l ++ [0]) m) : (0 < m) ↔ l.any (fun y => decide (0 < y)) = true := by
  constructor
  · intro hm
    rcases List.mem_append.1 h.2 with h1 | h1
    · exact List.any_eq_true.2 ⟨m, h1, decide_eq_true hm⟩
    · rw [List.mem_singleton.1 h1] at hm; omega
  · intro ha
    obtain ⟨y, hy, hp⟩ := List.any_eq_true.1 ha
    have := h.1 y (List.mem_append_left _ hy)
    have := of_decide_eq_true hp
    omega
theorem gb_trans {a b c : World} {r : Option Nat} (h1 : a.grownBy b r) (h2 : b.grownBy c r) : a.grownBy c r :=
  ⟨h2.1.trans h1.1, h2.2.trans h1.2, h2.3.trans h1.3, Nat.le_trans h1.size h2.size, fun k hk hn => (h2.block k (Nat.lt_of_lt_of_le hk h1.size) hn).trans (h1.block k hk hn)⟩
theorem gb_below {a b : World} (r : Option Nat) (h : Below a.heap.size a b) : a.grownBy b r := ⟨h.1, h.2, h.3, h.size, fun k hk _ => h.block k hk⟩
theorem C_len {w : World} {A : Option Addr} {n : Nat} {xs : List Int} (h : Kd.C kI w A n xs) : n = xs.length := h.1.symm

set_option maxHeartbeats 16000000 in
set_option maxRecDepth 100000 in
theorem nth_calls (K : Nat) (w : World) (A : Option Addr) (c : Nat) (parts : List Int) (n : Int) (r : List Int) (e : Int) (hr : Kd.C kI w A parts.length parts) (hc : parts.length ≤ c) (h : nthF K parts n = some (r, e)) :
    Calls Try.prog 17 #[.slice A parts.length c, .int .i64 n] w fun en w' => ∃ v, en = .returned (.tuple #[v, .int .i64 e]) ∧ w'.ownsRow w.heap.size 3 1 v r.length (nums .i64 r) ∧ Below w.heap.size w w' := by
  have HR := Aside0.mk hr
  unfold nthF at h
  obtain ⟨e0, he0, h⟩ := Option.bind_eq_some_iff.1 h
  have HE := Aside0.mk (sched_right.calls K A c parts e0 w hr hc he0)
  clear hr he0
  by_cases hz : e0 = 0
  · subst hz
    rw [if_pos rfl] at h
    by_cases hn : n < 0
    · rw [if_pos hn] at h
      obtain ⟨rfl, rfl⟩ := Prod.mk.inj (Option.some.inj h)
      clear h
      go_enter Try.func17, Try.ntmps17
      go_wp2_with fail
      refine HE.out.mono ?_
      rintro en w1 ⟨rfl, hb⟩
      have HB := Aside0.mk hb
      clear hb
      go_wp2
      exact bodyPost_ret (v := .tuple #[.slice none 0 0, .int .i64 1]) (by simp [results, Try.f17, go_sem]) rfl ⟨_, rfl, World.ownsRow_nil _ _ _ _, HB.out⟩
    · rw [if_neg hn] at h
      obtain ⟨ct, hct, h⟩ := Option.bind_eq_some_iff.1 h
      have HCT := Aside0.mk hct
      clear hct
      have hn0 : 0 ≤ n := by omega
      by_cases hcn : ct ≤ n
      · rw [if_pos hcn] at h
        obtain ⟨rfl, rfl⟩ := Prod.mk.inj (Option.some.inj h)
        clear h
        go_enter Try.func17, Try.ntmps17
        go_wp2_with fail
        refine HE.out.mono ?_
        rintro en w1 ⟨rfl, hb⟩
        have HB := Aside0.mk hb
        have HCC := Aside0.mk (sched_count.calls K A c parts ct w1 (Kd.C_below HR.out hb) hc HCT.out)
        clear hb
        go_wp2_with fail
        refine HCC.out.mono ?_
        rintro en w2 ⟨rfl, hd⟩
        have HB2 := Aside0.mk (below_then HB.out HB.out.size hd.below)
        clear hd
        go_wp2
        exact bodyPost_ret (v := .tuple #[.slice none 0 0, .int .i64 1]) (by simp [results, Try.f17, go_sem]) rfl ⟨_, rfl, World.ownsRow_nil _ _ _ _, HB2.out⟩
      · rw [if_neg hcn] at h
        by_cases hpl : parts.length ≤ 1000
        · rw [if_pos hpl] at h
          obtain ⟨rr, hrr, h⟩ := Option.bind_eq_some_iff.1 h
          obtain ⟨rfl, rfl⟩ := Prod.mk.inj (Option.some.inj h)
          have HN := Aside0.mk hrr
          have hcn2 : n < ct := by omega
          clear h hrr
          go_enter Try.func17, Try.ntmps17
          go_wp2_with fail
          refine HE.out.mono ?_
          rintro en w1 ⟨rfl, hb⟩
          have HB := Aside0.mk hb
          have HCC := Aside0.mk (sched_count.calls K A c parts ct w1 (Kd.C_below HR.out hb) hc HCT.out)
          clear hb
          go_wp2_with fail
          refine HCC.out.mono ?_
          rintro en w2 ⟨rfl, hd⟩
          have HB2 := Aside0.mk (below_then HB.out HB.out.size hd.below)
          clear hd
          go_wp2_with fail
          refine (clone_calls w2 A c parts (Kd.C_below HR.out HB2.out) hc (by omega)).mono ?_
          rintro en w3 ⟨v, rfl, hO, hb⟩
          have HB3 := Aside0.mk (below_then HB2.out HB2.out.size hb)
          have HO := Aside0.mk (Kd.R_lower hO HB2.out.size)
          clear hO hb HCC HB HB2
          by_cases hp : parts = []
          · subst hp
            have hrn : rr = [] := by
              have h := HN.out
              cases K with
              | zero => simp [nthL] at h
              | succ K => simp [nthL] at h; exact h
            subst hrn
            clear HN HR HE HCT hcn hcn2
            obtain ⟨A1, d1, rfl, hd1, -⟩ := Kd.R_reads HO.out
            go_wp2_with fail
            go_loopw [1, 8, 9] (fun v1 v8 v9 wr => v1 = .int .i64 n ∧ v8 = .slice none 0 0 ∧ Aside0 (Below w.heap.size w wr) ∧ Aside0 (wr.ownsRow w.heap.size 3 1 (.slice A1 0 d1) 0 [])) (fun _ _ _ _ => 0)
            case atStart => exact ⟨rfl, rfl, HB3, ⟨(Kd.own_of_R HO.out)⟩⟩
            case round =>
              clear HB3 HO
              obtain ⟨rfl, rfl, HB, HO⟩ := hrel
              go_wp2_with (at_builtin; refine print_append_row (w0 := w) w.heap.size rfl _ _ 23 3 .i64 8 rfl Try.underlying23 infoInt (by decide) _ [] [0] _ 1 1 rfl rfl (own_keep HO.out (below_alloc (Below.refl _ _) _)) (reads_lit _ [0] (by simp) _) (below_alloc HB.out _) (below_alloc HB.out _).size (by decide) ?_; intro v1 w5 hown hB hg hat; have HO5 := Aside0.mk hown; have HB5 := Aside0.mk hB; clear hown hB hg hat)
              obtain ⟨A6, d6, rfl, hd6, hrd6⟩ := own_rd HO5.out
              refine (max_calls _ A6 d6 ([] ++ [0]) (C_int hrd6) (by simp) (by simp)).mono ?_
              rintro en w6 ⟨m, rfl, hm, hb⟩
              have hm0 : m = 0 := by
                have := hm.2
                simpa using this
              subst hm0
              have HB6 := Aside0.mk (below_then HB5.out HB5.out.size hb)
              clear hm hb
              go_wp2
              exact bodyPost_ret (v := .tuple #[.slice none 0 0, .int .i64 0]) (by simp [results, Try.f17, go_sem]) rfl ⟨_, rfl, World.ownsRow_nil _ _ _ _, HB6.out⟩
          · have hpos : 0 < parts.length := List.length_pos_iff.2 hp
            obtain ⟨N, hN⟩ : ∃ N, N = parts.length := ⟨_, rfl⟩
            have HNL := Aside0.mk hN
            obtain ⟨g, c1, rfl, hIR⟩ := R_form HO.out hpos
            rw [← hN] at hIR hpl hpos ⊢
            have hgl := Kd.R_lt hIR g rfl
            obtain ⟨bo, hbo⟩ : ∃ bo, bo = w3.heap.size := ⟨_, rfl⟩
            have HBO := Aside0.mk (show g < bo ∧ w.heap.size ≤ bo by rw [hbo]; exact ⟨hgl, HB3.out.size⟩)
            have HBS := Aside0.mk (show bo ≤ w3.heap.size by rw [hbo]; exact Nat.le_refl _)
            have HIR := Aside0.mk hIR
            have hNc : N ≤ c1 := (Kd.R_reads' hIR).2.1
            clear hp HO hgl hbo hIR hN HR HE HCT hcn hcn2
            go_wp2_with fail
            go_loopg [1, 8, 9] K (fun kq v1 v8 v9 wr => ∃ (l out : List Int) (n : Int), v1 = .int .i64 n ∧ Aside0 (l.length = N) ∧ Aside0 (nthL K kq l out n = some rr) ∧ Aside0 (kq ≤ K) ∧ Aside0 (IR wr w.heap.size g N c1 l) ∧ Aside0 (wr.ownsRow bo 3 1 v8 out.length (nums .i64 out)) ∧ Aside0 (Below w.heap.size w wr) ∧ Aside0 (bo ≤ wr.heap.size))
            case atStart => exact ⟨parts, [], n, rfl, ⟨HNL.out.symm⟩, HN, ⟨Nat.le_refl _⟩, HIR, ⟨World.ownsRow_nil _ _ _ _⟩, HB3, HBS⟩
            case round =>
              clear HN HIR HB3 HBS HNL
              obtain ⟨l, out, n, rfl, HL, HN, HK1, HIR, HOU, HB, HBS⟩ := hrel
              cases gk with
              | zero => exact absurd HN.out (by simp [nthL])
              | succ k1 =>
                have hba := below_alloc (Below.refl wr.heap.size wr) (.cells #[Value.int .i64 0] 3)
                obtain ⟨A2, c2, w2, hrun, hc2, hC2, hIR2, hg2⟩ := IR.app (HIR.out.below hba) ⟨wr.heap.size, 0, none⟩ 0 (by
                  rw [blk_cell (heap_alloc_new wr _)]; rfl) (by omega)
                have HRUN := Aside0.mk hrun
                have e1 : (l ++ [0]).length = N + 1 := by rw [List.length_append, HL.out]; rfl
                have hmx := max_calls w2 A2 c2 (l ++ [0]) (by rw [e1]; exact hC2) (by rw [e1]; omega) (by rw [e1]; omega)
                rw [e1] at hmx
                have HMX := Aside0.mk hmx
                have HIR2 := Aside0.mk hIR2
                have hgg := gb_trans (gb_below (some g) hba) hg2
                have HOU2 := Aside0.mk (own_far HOU.out hgg HBO.out.1)
                have HB2 := Aside0.mk (Below.grown HB.out hgg HB.out.size (fun k hk => by cases hk; exact HIR.out.base))
                have HBS2 := Aside0.mk (Nat.le_trans HBS.out hgg.size)
                clear hba hrun hC2 hIR2 hg2 e1 hmx hgg HIR HOU HB HBS hc2
                go_wp2_with (at_builtin; refine Lib.wpList_append_run _ rfl _ _ _ _ rfl _ _ rfl rfl _ _ HRUN.out ?_)
                refine HMX.out.mono ?_
                rintro en w4 ⟨m, rfl, hm, hb⟩
                have HIR4 := Aside0.mk (HIR2.out.below hb)
                have HOU4 := Aside0.mk (own_keep HOU2.out hb)
                have HB4 := Aside0.mk (below_then HB2.out HB2.out.size hb)
                have HBS4 := Aside0.mk (Nat.le_trans HBS2.out hb.size)
                have hmp := max_pos hm
                have H := HN.out
                simp only [nthL] at H
                clear HMX HIR2 HOU2 HB2 HBS2 hb hm HRUN HN
                by_cases ha : l.any (fun y => decide (0 < y)) = true
                · rw [if_pos ha] at H
                  have hm0 : 0 < m := hmp.2 ha
                  obtain ⟨x, hx, H⟩ := Option.bind_eq_some_iff.1 H
                  obtain ⟨kk, nn⟩ := x
                  by_cases hol : out.length ≤ 1000
                  · rw [if_pos hol] at H
                    have HPK := Aside0.mk hx
                    have HN2 := Aside0.mk H
                    have HOL := Aside0.mk hol
                    clear hx H hmp ha hol
                    go_wp2_with fail
                    go_loopg [1, 9] K (fun fq v1 v9 wq => ∃ (n2 : Int) (k2 : Nat), v1 = .int .i64 n2 ∧ v9 = .int .i64 (k2 : Int) ∧ k2 ≤ N ∧ Aside0 (pickF K fq l n2 k2 = some (kk, nn)) ∧ Aside0 (fq ≤ K) ∧ Aside0 (Below w4.heap.size w4 wq))
                    case atStart => exact ⟨n, 0, rfl, rfl, Nat.zero_le _, HPK, ⟨Nat.le_refl _⟩, ⟨Below.refl _ _⟩⟩
                    case round =>
                      clear HPK
                      obtain ⟨n2, k2, rfl, rfl, hk2, HPK, HK2, HBq⟩ := hrel
                      cases gk with
                      | zero => exact absurd HPK.out (by simp [pickF])
                      | succ k3 =>
                        have H := HPK.out
                        simp only [pickF] at H
                        by_cases hkl : k2 < l.length
                        · rw [if_pos hkl] at H
                          obtain ⟨x, hx, H⟩ := Option.bind_eq_some_iff.1 H
                          have HX := Aside0.mk hx
                          have hw1 := without_calls K wr (some ⟨g, 0, none⟩) c1 l k2 x (HIR4.out.below HBq.out).C (by rw [HL.out]; exact hNc) (by rw [HL.out]; omega) hkl hx
                          rw [HL.out] at hw1
                          have HW1 := Aside0.mk hw1
                          have hkN : k2 + 1 ≤ N := by have := HL.out; omega
                          have HKL := Aside0.mk hkl
                          clear hx hw1 HPK hkl
                          go_wp2_with fail
                          refine HW1.out.mono ?_
                          rintro en w5 ⟨rfl, hb⟩
                          have HB5 := Aside0.mk (below_then HBq.out HBq.out.size hb)
                          clear hb
                          by_cases hxn : x ≤ n2
                          · rw [if_pos hxn] at H
                            have HPK2 := Aside0.mk H
                            have hw2 := without_calls K w5 (some ⟨g, 0, none⟩) c1 l k2 x (HIR4.out.below HB5.out).C (by rw [HL.out]; exact hNc) (by rw [HL.out]; omega) HKL.out HX.out
                            rw [HL.out] at hw2
                            have HW2 := Aside0.mk hw2
                            clear H hw2
                            go_wp2_with fail
                            refine HW2.out.mono ?_
                            rintro en w6 ⟨rfl, hb⟩
                            have HB6 := Aside0.mk (below_then HB5.out HB5.out.size hb)
                            have hwx : IntKind.i64.wrap (n2 - x) = wrap64 (n2 - x) := by rw [IntKind.wrap_i64]; unfold wrap64; omega
                            clear hb HB5
                            go_wp2
                            go_roundg k3
                            case measure => have := HK2.out; omega
                            case rel => exact ⟨wrap64 (n2 - x), k2 + 1, rfl, by go_num, hkN, HPK2, ⟨by have := HK2.out; omega⟩, HB6⟩
                          · rw [if_neg hxn] at H
                            obtain ⟨rfl, rfl⟩ := Prod.mk.inj (Option.some.inj H)
                            have hxn2 : n2 < x := by omega
                            have hk2N : k2 < N := by omega
                            have hk2N1 : (k2 : Int) < (N : Int) := by omega
                            have HIR5 := HIR4.out.below HB5.out
                            have HOU5 := own_keep HOU4.out HB5.out
                            have HB5w := below_then HB4.out HB4.out.size HB5.out
                            have HBS5 := Nat.le_trans HBS4.out HB5.out.size
                            have HI := Aside0.mk HIR5
                            have HOo := Aside0.mk HOU5
                            have HBw := Aside0.mk HB5w
                            have HBs := Aside0.mk HBS5
                            clear H HIR5 HOU5 HB5w HBS5 HB5 HIR4 HOU4 HB4 HBS4 HX
                            have HA5 := Aside0.mk (Below.alloc (Below.refl bo w5) HBs.out (.cells #[Value.int .i64 (k2 : Int)] 3))
                            have hba5 := below_alloc (Below.refl w5.heap.size w5) (.cells #[Value.int .i64 (k2 : Int)] 3)
                            have HOa := Aside0.mk (own_keep HOo.out hba5)
                            have HIa := Aside0.mk (HI.out.below hba5)
                            have HSa := Aside0.mk (Nat.le_trans HBs.out hba5.size)
                            clear hba5
                            go_wp2_with (at_builtin; refine print_append_row (w0 := w5) bo rfl _ _ 23 3 .i64 8 rfl Try.underlying23 infoInt (by decide) _ out [(k2 : Int)] _ 1 1 rfl rfl HOa.out (reads_lit _ [(k2 : Int)] (by simp) _) HA5.out HSa.out (by have := HOL.out; show (out.length + 1) * 8 ≤ _; omega) ?_; intro v1 w6 hown hB hg hat; have HO6 := Aside0.mk hown; have HB6 := Aside0.mk (Below.trans HBw.out (Below.mono hB HBO.out.2)); have hI6 := HIa.out.far hg (own_ne HOa.out HBO.out.1); have HI6 := Aside0.mk hI6; have HS6 := Aside0.mk (Nat.le_trans HBs.out hB.size); obtain ⟨y, hy⟩ : ∃ y, y = l[k2]'(by have := HL.out; omega) := ⟨_, rfl⟩; obtain ⟨hcl, hcf⟩ := hI6.cell k2 (by have := HL.out; omega); rw [← hy] at hcl; have hwy := wrapW (y - 1); have HLE := Aside0.mk (less_is hy); obtain ⟨u, hu⟩ : ∃ u, u = wrap64 (y - 1) := ⟨_, rfl⟩; rw [← hu] at hwy HLE; have HP := Aside0.mk (HI6.out.put k2 u); clear hown hB hg hat hI6 hy hu)
                            go_roundg k1
                            case measure => have := HK1.out; omega
                            case rel => exact ⟨less l k2, out ++ [(k2 : Int)], n2, rfl, ⟨by unfold less; rw [List.length_set]; exact HL.out⟩, HN2, ⟨by have := HK1.out; omega⟩, ⟨by rw [← HLE.out]; exact HP.out.1⟩, ⟨own_far HO6.out HP.out.2 HBO.out.1⟩, ⟨Below.grown HB6.out HP.out.2 HB6.out.size (fun k hk => by cases hk; exact HI6.out.base)⟩, ⟨Nat.le_trans HS6.out HP.out.2.size⟩⟩
                        · rw [if_neg hkl] at H
                          cases H
                  · rw [if_neg hol] at H
                    cases H
                · rw [if_neg ha] at H
                  obtain rfl := Option.some.inj H
                  have hm0 : m ≤ 0 := by
                    rcases Int.lt_or_le 0 m with h | h
                    · exact absurd (hmp.1 h) ha
                    · exact h
                  clear H hmp ha
                  go_wp2
                  exact bodyPost_ret (v := .tuple #[u8, .int .i64 0]) (by simp [results, Try.f17, go_sem]) rfl ⟨_, rfl, own_lower HOU4.out HBO.out.2, HB4.out⟩
        · rw [if_neg hpl] at h
          cases h
  · rw [if_neg hz] at h
    obtain ⟨rfl, rfl⟩ := Prod.mk.inj (Option.some.inj h)
    clear h
    go_enter Try.func17, Try.ntmps17
    go_wp2_with fail
    refine HE.out.mono ?_
    rintro en w1 ⟨rfl, hb⟩
    have HB := Aside0.mk hb
    clear hb
    go_wp2
    exact bodyPost_ret (v := .tuple #[.slice none 0 0, .int .i64 e0]) (by simp [results, Try.f17, go_sem]) rfl ⟨_, rfl, World.ownsRow_nil _ _ _ _, HB.out⟩
end Go.Proofs.Ytblalidpeccabac.Sd
