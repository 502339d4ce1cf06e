/- WalkWays's walk: the call answers true, whatever comes in. -/
import Derived.Test.YtjhbdddglhpneaaWalkPure
import Derived.Test.YtjhbdddglhpneaaWalkBackWalk
import Derived.Test.YtjhbdddglhpneaaOpen
import Derived.Test.YtjhbdddglhpneaaRows
import Derived.IntWalk
import Derived.Test.YtjhbdddglhpneaaRegionStep
namespace Go.Proofs.Ytjhbdddglhpneaa.WalkPure
open Go.RowKit Go.Proofs.YtjhbdddglhpneaaW.PrintWords Go.Proofs.YtjhbdddglhpneaaW.PrintLast Go.Proofs.YtjhbdddglhpneaaW.PrintMore
open Go.Proofs.Ytjhbdddglhpneaa.PWalkBack Go.Proofs.Ytjhbdddglhpneaa.Open Go.Proofs.Ytjhbdddglhpneaa.RegionVal

theorem nextC {A : Option Addr} {c : Nat} {l : List S29} (lc : l.length ≤ c) {i how : Int} {r1 : Int} {r2 : Bool} {r3 : Int} {w w0 : World} (hr : Kd.C k29 w0 A l.length l) (hb : Below w0.heap.size w0 w) (h : walk_Next.f 300 l i how = some (r1, r2, r3)) :
    Calls Try.prog 11 #[.slice A l.length c, .int .i64 i, .int .i64 how] w fun e w' => e = .returned (.tuple #[.int .i64 r1, .bool r2, .int .i64 r3]) ∧ Below w0.heap.size w0 w' :=
  (walk_Next.calls 300 A c l i how r1 r2 r3 w (Kd.C_below hr hb) lc h).mono fun _ _ ⟨h1, h2⟩ => ⟨h1, below_step hb h2⟩
theorem begunC {w w0 : World} (hb : Below w0.heap.size w0 w) : Calls Try.prog 9 #[] w fun e w' => e = .returned (.bool true) ∧ Below w0.heap.size w0 w' :=
  (backstitchkeep4_walkBegun.calls 300 true w (begun 300 (by omega))).mono fun _ _ ⟨h1, h2⟩ => ⟨h1, below_step hb h2⟩

theorem rowD {w w0 : World} {A : Option Addr} {l : List S29} (hr : Kd.C k29 w0 A l.length l) (hb : Below w0.heap.size w0 w) {ad : Addr} (hA : A = some ad) (i : Int) (h0 : 0 ≤ i) (h1 : i < l.length) :
    w.cell? ⟨(ad.add (i.toNat * 3)).block, (ad.add (i.toNat * 3)).off + 1, none⟩ = some (.int .i64 (rd_T29 l i).f1) := by
  obtain ⟨ad', e, h0, h1, h2⟩ := at_T29 hr i h0 h1
  obtain rfl : ad = ad' := by rw [hA] at e; exact Option.some.inj e
  exact (hb.cell (World.block_lt_of_cell? w0 _ h1)).trans h1

set_option maxHeartbeats 16000000 in
set_option maxRecDepth 100000 in
theorem ways_ok (w : World) (A : Option Addr) (c : Nat) (l : List S29) (lc : l.length ≤ c) (hr : Kd.C k29 w A l.length l) (i s o ln ou : Int) (is a b cc : Bool)
    (hs : walk_Next.f 300 l i 1 = some (s, is, 0)) (ho : walk_Next.f 300 l i 2 = some (o, a, 0)) (hln : walk_Next.f 300 l i 4 = some (ln, b, 0)) (hou : walk_Next.f 300 l i 3 = some (ou, cc, 0))
    (hl : l.length ≤ 200) (hi0 : 0 ≤ i) (hi : i < l.length) (h0 : decide (i + 1 < (l.length : Int)) = is) (h1 : is = true → (s == i + 1) = true) (h2 : a = true → is = true ∧ decide (s ≤ o) = true ∧ 0 ≤ o ∧ o < l.length ∧ decide ((rd_T29 l o).f1 ≤ (rd_T29 l i).f1) = true)
    (h3 : b = true → a = true ∧ decide (o ≤ ln) = true) (h4 : cc = true → b = true ∧ decide (ln ≤ ou) = true ∧ 0 ≤ ou ∧ ou < l.length ∧ decide ((rd_T29 l ou).f1 < (rd_T29 l i).f1) = true) :
    Calls Try.prog 4 #[.slice A l.length c, .int .i64 i] w fun e w' => e = .returned (.bool true) ∧ Below w.heap.size w w' := by
  obtain ⟨ad, hA, -⟩ := at_T29 hr i hi0 (by omega)
  subst hA
  have HR := Aside0.mk hr
  have HC := Aside0.mk lc
  have Hs := Aside0.mk hs
  have Ho := Aside0.mk ho
  have Hln := Aside0.mk hln
  have Hou := Aside0.mk hou
  clear hr lc hs ho hln hou
  have HB := Aside0.mk (Below.refl w.heap.size w)
  have ws : IntKind.i64.wrap (i + 1) = i + 1 := IntWalk.i64_in _ (by omega)
  cases cc <;> cases b <;> cases a <;> cases is
  all_goals first
    | (exfalso; first | exact Bool.noConfusion (h2 rfl).1 | exact Bool.noConfusion (h3 rfl).1 | exact Bool.noConfusion (h4 rfl).1)
    | (try have D1 := Aside0.mk (h1 rfl)
       try have D2 := Aside0.mk (h2 rfl).2
       try have D3 := Aside0.mk (h3 rfl).2
       try have D4 := Aside0.mk (h4 rfl).2
       clear h1 h2 h3 h4
       go_enter Try.func4, Try.ntmps4
       go_wp2_with fail
       refine (begunC HB.out).mono ?_
       rintro e w1 ⟨rfl, hb⟩
       have HB1 := Aside0.mk hb; clear hb
       go_wp2_with fail
       refine (nextC HC.out HR.out HB1.out Hs.out).mono ?_
       rintro e w2 ⟨rfl, hb⟩
       have HB2 := Aside0.mk hb; clear hb
       go_wp2_with fail
       refine (nextC HC.out HR.out HB2.out Ho.out).mono ?_
       rintro e w3 ⟨rfl, hb⟩
       have HB3 := Aside0.mk hb; clear hb
       go_wp2_with fail
       refine (nextC HC.out HR.out HB3.out Hln.out).mono ?_
       rintro e w4 ⟨rfl, hb⟩
       have HB4 := Aside0.mk hb; clear hb
       go_wp2_with fail
       refine (nextC HC.out HR.out HB4.out Hou.out).mono ?_
       rintro e w5 ⟨rfl, hb⟩
       have HB5 := Aside0.mk hb; clear hb
       go_wp2_with fail
       have HB5' := Aside0.mk (below_drew HB5.out)
       simp only [List.append]
       try have d1 := D1.out
       try have d2 := D2.out
       try have d3 := D3.out
       try have d4 := D4.out
       refine wp_val (S := fun w' => Below w.heap.size w w') (by kernel_rfl) (by kernel_rfl) HB5'.out ?_
       repeat (first
         | refine st_skip rfl ?_
         | refine st_move rfl rfl ?_
         | refine st_assign rfl rfl ?_
         | refine st_pickT rfl rfl rfl ?_
         | refine st_pickF rfl rfl rfl ?_
         | refine st_call rfl Try.func9 rfl rfl (by kernel_rfl) (fun w' hw => begunC hw) ?_
         | refine st_bin rfl rfl rfl (fun w' hw => by go_simp; rfl) ?_
         | refine st_indexAddr rfl rfl rfl (fun w' hw => by go_simp; rfl) ?_
         | refine st_un rfl rfl rfl rfl (fun w' hw => by go_simp; rfl) ?_
         | refine st_un rfl rfl rfl rfl (fun w' hw => by have x2 := rowD HR.out hw rfl i hi0 hi; go_simp; rfl) ?_
         | refine st_un rfl rfl rfl rfl (fun w' hw => by have x1 := rowD HR.out hw rfl o d2.2.1 d2.2.2.1; go_simp; rfl) ?_
         | refine st_un rfl rfl rfl rfl (fun w' hw => by have x3 := rowD HR.out hw rfl ou d4.2.1 d4.2.2.1; go_simp; rfl) ?_)
       intro w6 hb6
       simp only [puts, Act.put, List.setIfInBounds_toArray, List.set_cons_zero, List.set_cons_succ]
       have HB6 := Aside0.mk hb6; clear hb6
       go_wp2
       go_ret
       exact ⟨rfl, HB6.out⟩)

set_option maxHeartbeats 16000000 in
set_option maxRecDepth 100000 in
theorem ways_no (w : World) (A : Option Addr) (c : Nat) (l : List S29) (lc : l.length ≤ c) (hr : Kd.C k29 w A l.length l) (i e0 : Int) (he : (e0 == 0) = false)
    (hs : walk_Next.f 300 l i 1 = some (0, false, e0)) (ho : walk_Next.f 300 l i 2 = some (0, false, e0)) (hln : walk_Next.f 300 l i 4 = some (0, false, e0)) (hou : walk_Next.f 300 l i 3 = some (0, false, e0)) :
    Calls Try.prog 4 #[.slice A l.length c, .int .i64 i] w fun e w' => e = .returned (.bool true) ∧ Below w.heap.size w w' := by
  have HR := Aside0.mk hr
  have HC := Aside0.mk lc
  have Hs := Aside0.mk hs
  have Ho := Aside0.mk ho
  have Hln := Aside0.mk hln
  have Hou := Aside0.mk hou
  clear hr lc hs ho hln hou
  have HB := Aside0.mk (Below.refl w.heap.size w)
  have he' : (e0 != 0) = true := by simp [bne, he]
  go_enter Try.func4, Try.ntmps4
  go_wp2_with fail
  refine (begunC HB.out).mono ?_
  rintro e w1 ⟨rfl, hb⟩
  have HB1 := Aside0.mk hb; clear hb
  go_wp2_with fail
  refine (nextC HC.out HR.out HB1.out Hs.out).mono ?_
  rintro e w2 ⟨rfl, hb⟩
  have HB2 := Aside0.mk hb; clear hb
  go_wp2_with fail
  refine (nextC HC.out HR.out HB2.out Ho.out).mono ?_
  rintro e w3 ⟨rfl, hb⟩
  have HB3 := Aside0.mk hb; clear hb
  go_wp2_with fail
  refine (nextC HC.out HR.out HB3.out Hln.out).mono ?_
  rintro e w4 ⟨rfl, hb⟩
  have HB4 := Aside0.mk hb; clear hb
  go_wp2_with fail
  refine (nextC HC.out HR.out HB4.out Hou.out).mono ?_
  rintro e w5 ⟨rfl, hb⟩
  have HB5 := Aside0.mk hb; clear hb
  go_wp2_with fail
  refine (begunC HB5.out).mono ?_
  rintro e w6 ⟨rfl, hb⟩
  have HB6 := Aside0.mk hb; clear hb
  go_wp2
  go_ret
  exact ⟨rfl, HB6.out⟩

theorem rch_out_line {a b : S29} (h : rch 3 a b = true) : rch 4 a b = true := by
  simp only [rch] at h ⊢
  rw [if_neg (by decide)] at h ⊢
  by_cases h0 : a.f0 = b.f0
  · rw [if_pos h0, if_neg (by decide), if_pos trivial] at h
    rw [if_pos h0, if_neg (by decide), if_neg (by decide), if_pos (of_decide_eq_true h)]
  · rw [if_neg h0] at h; cases h
theorem rch_line_over {a b : S29} (h : rch 4 a b = true) : rch 2 a b = true := by
  simp only [rch] at h ⊢
  rw [if_neg (by decide)] at h ⊢
  by_cases h0 : a.f0 = b.f0
  · rw [if_pos h0, if_neg (by decide), if_neg (by decide)] at h
    rw [if_pos h0, if_pos trivial]
    by_cases h1 : b.f1 < a.f1
    · exact decide_eq_true (by omega)
    · rw [if_neg h1] at h
      by_cases h2 : b.f1 = a.f1
      · exact decide_eq_true (by omega)
      · rw [if_neg h2] at h; cases h
  · rw [if_neg h0] at h; cases h
theorem rch_over_f1 {a b : S29} (h : rch 2 a b = true) : b.f1 ≤ a.f1 := by
  simp only [rch] at h
  rw [if_neg (by decide)] at h
  by_cases h0 : a.f0 = b.f0
  · rw [if_pos h0, if_pos trivial] at h; exact of_decide_eq_true h
  · rw [if_neg h0] at h; cases h
theorem rch_out_f1 {a b : S29} (h : rch 3 a b = true) : b.f1 < a.f1 := by
  simp only [rch] at h
  rw [if_neg (by decide)] at h
  by_cases h0 : a.f0 = b.f0
  · rw [if_pos h0, if_neg (by decide), if_pos trivial] at h; exact of_decide_eq_true h
  · rw [if_neg h0] at h; cases h
theorem rch_step (a b : S29) : rch 1 a b = true := by simp [rch]

/-- who asks for more comes no less far -/
theorem farther {l : List S29} {i x h1 h2 : Int} {r1 r2 : Int × Bool × Int} (hi : ∀ a b, rch h2 a b = true → rch h1 a b = true) (n1 : NextIs l i h1 x r1) (n2 : NextIs l i h2 x r2) (ht : r2.2.1 = true) : r1.2.1 = true ∧ r1.1 ≤ r2.1 := by
  rcases n2 with ⟨j, rfl, a, b, c, d⟩ | ⟨rfl, d⟩
  · rcases n1 with ⟨j', rfl, a', b', c', d'⟩ | ⟨rfl, d'⟩
    · refine ⟨rfl, ?_⟩
      by_cases h : j' ≤ j
      · exact h
      · have := d' j a (by omega)
        rw [hi _ _ c] at this; cases this
    · have := d' j a b
      rw [hi _ _ c] at this; cases this
  · cases ht

theorem walkWays_walk (w : World) (A : Option Addr) (c : Nat) (l : List S29) (lc : l.length ≤ c) (hr : Kd.C k29 w A l.length l) (_ : l.length ≤ 9223372036854775807 ∧ l.length * Try.prog.bytesOf 29 ≤ 140737488351232 ∧ ∀ a ∈ l, True)
    (i : Int) (_ : (Lit.int .i64 i).wf = true) :
    Calls Try.prog 4 #[.slice A l.length c, .int .i64 i] w fun e w' => e = .returned (.bool true) ∧ Below w.heap.size w w' := by
  by_cases h : okArgs l i 1
  · obtain ⟨h1, h2, h3, -, -⟩ := h
    obtain ⟨⟨s, is, e1⟩, hs, ns⟩ := next_ok (l := l) (i := i) (how := 1) ⟨h1, h2, h3, by omega, by omega⟩ 300 (by omega)
    obtain ⟨⟨o, a, e2⟩, ho, no⟩ := next_ok (l := l) (i := i) (how := 2) ⟨h1, h2, h3, by omega, by omega⟩ 300 (by omega)
    obtain ⟨⟨ln, b, e3⟩, hln, nl⟩ := next_ok (l := l) (i := i) (how := 4) ⟨h1, h2, h3, by omega, by omega⟩ 300 (by omega)
    obtain ⟨⟨ou, cc, e4⟩, hou, nu⟩ := next_ok (l := l) (i := i) (how := 3) ⟨h1, h2, h3, by omega, by omega⟩ 300 (by omega)
    have z : ∀ {how : Int} {r : Int × Bool × Int}, NextIs l i how (i + 1) r → r.2.2 = 0 := by
      rintro how r (⟨j, rfl, _⟩ | ⟨rfl, _⟩) <;> rfl
    obtain rfl : e1 = 0 := z ns
    obtain rfl : e2 = 0 := z no
    obtain rfl : e3 = 0 := z nl
    obtain rfl : e4 = 0 := z nu
    refine ways_ok w A c l lc hr i s o ln ou is a b cc hs ho hln hou h1 h2 h3 ?_ ?_ ?_ ?_ ?_
    · rcases ns with ⟨j, e, p, q, r, t⟩ | ⟨e, t⟩
      · simp only [Prod.mk.injEq] at e
        obtain ⟨_, rfl, _⟩ := e
        exact decide_eq_true (by omega)
      · simp only [Prod.mk.injEq] at e
        obtain ⟨_, rfl, _⟩ := e
        refine decide_eq_false fun hlt => ?_
        have := t (i + 1) (by omega) hlt
        rw [rch_step] at this; cases this
    · intro hh
      subst hh
      rcases ns with ⟨j, e, p, q, r, t⟩ | ⟨e, t⟩
      · simp only [Prod.mk.injEq] at e
        obtain ⟨rfl, _, _⟩ := e
        by_cases hj : s = i + 1
        · exact beq_iff_eq.2 hj
        · have := t (i + 1) (by omega) (by omega)
          rw [rch_step] at this; cases this
      · simp at e
    · intro hh
      subst hh
      have f := farther (fun a b _ => rch_step a b) ns no rfl
      refine ⟨f.1, decide_eq_true f.2, ?_⟩
      rcases no with ⟨j, e, p, q, r, t⟩ | ⟨e, t⟩
      · simp only [Prod.mk.injEq] at e
        obtain ⟨rfl, _, _⟩ := e
        exact ⟨by omega, q, decide_eq_true (rch_over_f1 r)⟩
      · simp at e
    · intro hh
      subst hh
      have f := farther (fun a b h => rch_line_over h) no nl rfl
      exact ⟨f.1, decide_eq_true f.2⟩
    · intro hh
      subst hh
      have f := farther (fun a b h => rch_out_line h) nl nu rfl
      refine ⟨f.1, decide_eq_true f.2, ?_⟩
      rcases nu with ⟨j, e, p, q, r, t⟩ | ⟨e, t⟩
      · simp only [Prod.mk.injEq] at e
        obtain ⟨rfl, _, _⟩ := e
        exact ⟨by omega, q, decide_eq_true (rch_out_f1 r)⟩
      · simp at e
  · have hh : ∀ how : Int, 1 ≤ how → how ≤ 4 → walk_check.f l i how = walk_check.f l i 1 := by
      intro how a b
      unfold walk_check.f
      simp only [if_neg (show ¬ how < 1 by omega), if_neg (show ¬ how > 4 by omega), if_neg (show ¬ (1 : Int) < 1 by omega), if_neg (show ¬ (1 : Int) > 4 by omega)]
    obtain ⟨e, he, hc⟩ := check_no h
    exact ways_no w A c l lc hr i e (beq_eq_false_iff_ne.2 he) (next_no he hc 300) (next_no he ((hh 2 (by omega) (by omega)).trans hc) 300) (next_no he ((hh 4 (by omega) (by omega)).trans hc) 300) (next_no he ((hh 3 (by omega) (by omega)).trans hc) 300)
end Go.Proofs.Ytjhbdddglhpneaa.WalkPure
