/- WalkTop's walk: the call answers true, whatever comes in. -/
import Derived.Test.YtjhbdddglhpneaaWalkWaysWalk
namespace Go.Proofs.Ytjhbdddglhpneaa.WalkPure
open Go.RowKit Go.Proofs.YtjhbdddglhpneaaW.PrintWords Go.Proofs.YtjhbdddglhpneaaW.PrintLast Go.Proofs.YtjhbdddglhpneaaW.PrintMore
open Go.Proofs.Ytjhbdddglhpneaa.PWalkBack Go.Proofs.Ytjhbdddglhpneaa.Open Go.Proofs.Ytjhbdddglhpneaa.RegionVal

/-- what Top finds: the first place of the call -/
structure TopIs (l : List S29) (i t : Int) : Prop where
  h0 : 0 ≤ t
  h1 : t ≤ i
  th : (rd_T29 l t).f0 = (rd_T29 l i).f0
  all : ∀ k, t ≤ k → k ≤ i → (rd_T29 l k).f0 = (rd_T29 l i).f0 → (rd_T29 l i).f1 ≤ (rd_T29 l k).f1
  max : ∀ m, 0 ≤ m → m < t → (rd_T29 l m).f0 = (rd_T29 l i).f0 → (∀ q, m < q → q < t → (rd_T29 l q).f0 ≠ (rd_T29 l i).f0) → (rd_T29 l m).f1 < (rd_T29 l i).f1

theorem top_loop {l : List S29} {i : Int} (hl : l.length ≤ 200) (hi0 : 0 ≤ i) (hi : i < l.length) (d : Nat) : ∀ (k : Nat) (x t : Int), x < i → x + 1 = d → d < k → x < t → t ≤ i → (rd_T29 l t).f0 = (rd_T29 l i).f0 →
    (∀ k, t ≤ k → k ≤ i → (rd_T29 l k).f0 = (rd_T29 l i).f0 → (rd_T29 l i).f1 ≤ (rd_T29 l k).f1) → (∀ q, x < q → q < t → (rd_T29 l q).f0 ≠ (rd_T29 l i).f0) →
    ∃ r, walk_Top.l0 k l i t x = some (r, 0) ∧ TopIs l i r := by
  induction d with
  | zero =>
    intro k x t h1 hd hk ht hti hth hall hno
    obtain ⟨k, rfl⟩ : ∃ m, k = m + 1 := ⟨k - 1, by omega⟩
    refine ⟨t, ?_, ⟨by omega, hti, hth, hall, fun m h0 hm he _ => absurd he (hno m (by omega) hm)⟩⟩
    simp only [walk_Top.l0]
    rw [if_neg (by omega)]
  | succ d ih =>
    intro k x t h1 hd hk ht hti hth hall hno
    obtain ⟨k, rfl⟩ : ∃ m, k = m + 1 := ⟨k - 1, by omega⟩
    simp only [walk_Top.l0]
    rw [if_pos (by omega), if_pos (by omega), if_pos (by omega), if_pos hi0, if_pos hi, wrap_small (by omega)]
    by_cases e : (rd_T29 l x).f0 = (rd_T29 l i).f0
    · rw [if_pos e]
      by_cases f : (rd_T29 l x).f1 < (rd_T29 l i).f1
      · rw [if_pos f]
        refine ⟨t, rfl, ⟨by omega, hti, hth, hall, fun m h0 hm he hq => ?_⟩⟩
        by_cases hmx : x < m
        · exact absurd he (hno m hmx hm)
        · by_cases hmx' : m = x
          · rw [hmx']; exact f
          · exact absurd e (hq x (by omega) ht)
      · rw [if_neg f]
        refine ih k (x - 1) x (by omega) (by omega) (by omega) (by omega) (by omega) e ?_ (fun q a b => by omega)
        intro q hq1 hq2 hq3
        by_cases hqx : q = x
        · rw [hqx]; omega
        · by_cases hqt : t ≤ q
          · exact hall q hqt hq2 hq3
          · exact absurd hq3 (hno q (by omega) (by omega))
    · rw [if_neg e]
      refine ih k (x - 1) t (by omega) (by omega) (by omega) (by omega) hti hth hall ?_
      intro q a b
      by_cases hqx : q = x
      · rw [hqx]; exact e
      · exact hno q (by omega) b

theorem top_ok {l : List S29} {i : Int} (h1 : l.length ≤ 200) (h2 : 0 ≤ i) (h3 : i < l.length) : ∃ r, walk_Top.f 300 l i = some (r, 0) ∧ TopIs l i r := by
  unfold walk_Top.f
  rw [check_ok (how := 1) ⟨h1, h2, h3, by omega, by omega⟩]
  simp only [Option.bind_some, if_true]
  rw [wrap_small (by omega)]
  exact top_loop h1 h2 h3 i.toNat 300 (i - 1) i (by omega) (by omega) (by omega) (by omega) (by omega) rfl (fun k a b _ => by rw [show k = i by omega]; omega) (fun q a b => by omega)

theorem top_no {l : List S29} {i e : Int} (he : e ≠ 0) (h : walk_check.f l i 1 = some e) : walk_Top.f 300 l i = some (0, e) := by
  unfold walk_Top.f
  rw [h]
  simp only [Option.bind_some]
  rw [if_neg he]

/-- the last of a kind ahead of a place -/
theorem last_such (p : Int → Prop) (u t : Int) (d : Nat) (hd : t - u = d) (hu : p u) (hut : u < t) : ∃ m, u ≤ m ∧ m < t ∧ p m ∧ ∀ q, m < q → q < t → ¬ p q := by
  classical
  induction d generalizing u with
  | zero => omega
  | succ d ih =>
    by_cases h : ∃ q, u < q ∧ q < t ∧ p q
    · obtain ⟨q, h1, h2, h3⟩ := h
      have : ∃ m, q ≤ m ∧ m < t ∧ p m ∧ ∀ q, m < q → q < t → ¬ p q := by
        clear ih
        obtain ⟨n, hn⟩ : ∃ n : Nat, t - q = n := ⟨(t - q).toNat, by omega⟩
        clear h1
        induction n using Nat.strongRecOn generalizing q with
        | ind n ihn =>
          by_cases h' : ∃ q', q < q' ∧ q' < t ∧ p q'
          · obtain ⟨q', a, b, c⟩ := h'
            obtain ⟨m, x, y, z, w⟩ := ihn (t - q').toNat (by omega) q' b c (by omega)
            exact ⟨m, by omega, y, z, w⟩
          · exact ⟨q, by omega, h2, h3, fun q' a b c => h' ⟨q', a, b, c⟩⟩
      obtain ⟨m, a, b, c, e⟩ := this
      exact ⟨m, by omega, b, c, e⟩
    · exact ⟨u, by omega, hut, hu, fun q a b c => h ⟨q, a, b, c⟩⟩

theorem top_again {l : List S29} {i t u : Int} (h : TopIs l i t) (h' : TopIs l t u) (he : (rd_T29 l t).f1 = (rd_T29 l i).f1) : u = t := by
  by_cases e : u = t
  · exact e
  · exfalso
    obtain ⟨m, a, b, c, d⟩ := last_such (fun q => (rd_T29 l q).f0 = (rd_T29 l i).f0) u t (t - u).toNat (by have := h'.h1; omega) (h'.th.trans h.th) (by have := h'.h1; omega)
    have h1 := h.max m (by have := h'.h0; omega) b c d
    have h2 := h'.all m a (by omega) (c.trans h.th.symm)
    omega

theorem top_next {l : List S29} {i t : Int} {r1 r2 : Int × Bool × Int} (h : TopIs l i t) (he : (rd_T29 l t).f1 = (rd_T29 l i).f1) (n1 : NextIs l i 3 (i + 1) r1) (n2 : NextIs l t 3 (t + 1) r2) : r1 = r2 := by
  have key : ∀ x, rch 3 (rd_T29 l t) x = rch 3 (rd_T29 l i) x := by intro x; simp [rch, h.th, he]
  have low : ∀ k, t + 1 ≤ k → k ≤ i → rch 3 (rd_T29 l i) (rd_T29 l k) = false := by
    intro k a b
    cases hb : rch 3 (rd_T29 l i) (rd_T29 l k) with
    | false => rfl
    | true =>
      have h1 := rch_out_f1 hb
      have h0 : (rd_T29 l k).f0 = (rd_T29 l i).f0 := by
        simp only [rch] at hb
        rw [if_neg (by decide)] at hb
        by_cases h0 : (rd_T29 l i).f0 = (rd_T29 l k).f0
        · exact h0.symm
        · rw [if_neg h0] at hb; cases hb
      have := h.all k (by omega) b h0
      omega
  rcases n1 with ⟨j, rfl, a, b, c, d⟩ | ⟨rfl, d⟩
  · rcases n2 with ⟨j', rfl, a', b', c', d'⟩ | ⟨rfl, d'⟩
    · rw [key] at c'
      have : j = j' := by
        rcases Int.lt_trichotomy j j' with hlt | he' | hgt
        · have := d' j (by have := h.h1; omega) hlt
          rw [key, c] at this; cases this
        · exact he'
        · by_cases hj : i + 1 ≤ j'
          · have := d j' hj hgt
            rw [c'] at this; cases this
          · have := low j' a' (by omega)
            rw [c'] at this; cases this
      rw [this]
    · have := d' j (by have := h.h1; omega) b
      rw [key, c] at this; cases this
  · rcases n2 with ⟨j', rfl, a', b', c', d'⟩ | ⟨rfl, d'⟩
    · rw [key] at c'
      by_cases hj : i + 1 ≤ j'
      · have := d j' hj b'
        rw [c'] at this; cases this
      · have := low j' a' (by omega)
        rw [c'] at this; cases this
    · rfl

theorem rowF {w w0 : World} {A : Option Addr} {l : List S29} (hr : Kd.C k29 w0 A l.length l) (hb : Below w0.heap.size w0 w) {ad : Addr} (hA : A = some ad) (i : Int) (h0 : 0 ≤ i) (h1 : i < l.length) :
    w.cell? (ad.add (i.toNat * 3)) = some (.int .i64 (rd_T29 l i).f0) := by
  obtain ⟨ad', e, h0, h1, h2⟩ := at_T29 hr i h0 h1
  obtain rfl : ad = ad' := by rw [hA] at e; exact Option.some.inj e
  exact (hb.cell (World.block_lt_of_cell? w0 _ h0)).trans h0

theorem topC {A : Option Addr} {c : Nat} {l : List S29} (lc : l.length ≤ c) {i r1 r2 : Int} {w w0 : World} (hr : Kd.C k29 w0 A l.length l) (hb : Below w0.heap.size w0 w) (h : walk_Top.f 300 l i = some (r1, r2)) :
    Calls Try.prog 12 #[.slice A l.length c, .int .i64 i] w fun e w' => e = .returned (.tuple #[.int .i64 r1, .int .i64 r2]) ∧ Below w0.heap.size w0 w' :=
  (walk_Top.calls 300 A c l i r1 r2 w (Kd.C_below hr hb) lc h).mono fun _ _ ⟨h1, h2⟩ => ⟨h1, below_step hb h2.below⟩

set_option maxHeartbeats 16000000 in
set_option maxRecDepth 100000 in
theorem top_yes (w : World) (A : Option Addr) (c : Nat) (l : List S29) (lc : l.length ≤ c) (hr : Kd.C k29 w A l.length l) (i t u a b : Int) (is was : Bool)
    (h1 : walk_Top.f 300 l i = some (t, 0)) (h2 : walk_Top.f 300 l t = some (u, 0)) (h3 : walk_Next.f 300 l i 3 = some (a, is, 0)) (h4 : walk_Next.f 300 l t 3 = some (b, was, 0))
    (hl : l.length ≤ 200) (hi0 : 0 ≤ i) (hi : i < l.length) (ht : TopIs l i t) (hu : u ≤ t) (hdu : (rd_T29 l t).f1 = (rd_T29 l i).f1 → u = t ∧ is = was ∧ a = b) :
    Calls Try.prog 5 #[.slice A l.length c, .int .i64 i] w fun e w' => e = .returned (.bool true) ∧ Below w.heap.size w w' := by
  obtain ⟨ad, hA, -⟩ := at_T29 hr i hi0 (by omega)
  subst hA
  have HR := Aside0.mk hr
  have HC := Aside0.mk lc
  have H1 := Aside0.mk h1
  have H2 := Aside0.mk h2
  have H3 := Aside0.mk h3
  have H4 := Aside0.mk h4
  have HT := Aside0.mk ht
  have HDU := Aside0.mk hdu
  have ht0 := ht.h0
  have ht1 := ht.h1
  clear hr lc h1 h2 h3 h4 ht hdu
  have HB := Aside0.mk (Below.refl w.heap.size w)
  go_enter Try.func5, Try.ntmps5
  go_wp2_with fail
  refine (begunC HB.out).mono ?_
  rintro e w1 ⟨rfl, hb⟩
  have HB1 := Aside0.mk hb; clear hb
  go_wp2_with fail
  refine (topC HC.out HR.out HB1.out H1.out).mono ?_
  rintro e w2 ⟨rfl, hb⟩
  have HB2 := Aside0.mk hb; clear hb
  go_wp2_with fail
  go_loopw [7] (fun v wr => ∃ k : Int, v = .int .i64 k ∧ t ≤ k ∧ k ≤ i + 1 ∧ Aside0 (Below w.heap.size w wr)) (fun v _ => (i + 1 - intOf v).toNat)
  case atStart => exact ⟨t, rfl, by omega, by omega, HB2⟩
  case round =>
    obtain ⟨k, rfl, hk0, hk1, HB3⟩ := hrel
    by_cases hk : k ≤ i
    · have ws : IntKind.i64.wrap (k + 1) = k + 1 := IntWalk.i64_in _ (by omega)
      go_wp2_with fail
      have q0 : 0 ≤ k := by omega
      have q1 : k < l.length := by omega
      have HB3' := Aside0.mk (below_drew HB3.out)
      have hd : ((rd_T29 l k).f0 == (rd_T29 l i).f0) = false ∨ ((rd_T29 l k).f0 == (rd_T29 l i).f0) = true ∧ decide ((rd_T29 l k).f1 < (rd_T29 l i).f1) = false := by
        by_cases e : (rd_T29 l k).f0 = (rd_T29 l i).f0
        · refine .inr ⟨beq_iff_eq.2 e, decide_eq_false ?_⟩
          have := HT.out.all k hk0 hk e
          omega
        · exact .inl (beq_eq_false_iff_ne.2 e)
      have HD := Aside0.mk hd
      clear hd
      rcases HD.out with hd | ⟨hd, hd2⟩
      all_goals
        refine wp_val (S := fun w' => Below w.heap.size w w') (by kernel_rfl) (by kernel_rfl) HB3'.out ?_
        repeat (first
          | refine st_skip rfl ?_
          | refine st_move rfl rfl ?_
          | refine st_assign rfl rfl ?_
          | refine st_pickT rfl rfl rfl ?_
          | refine st_pickF rfl rfl rfl ?_
          | refine st_bin rfl rfl rfl (fun w' hw => by go_simp; rfl) ?_
          | refine st_indexAddr rfl rfl rfl (fun w' hw => by go_simp; rfl) ?_
          | refine st_un rfl rfl rfl rfl (fun w' hw => by go_simp; rfl) ?_
          | refine st_un rfl rfl rfl rfl (fun w' hw => by have x1 := rowF HR.out hw rfl k q0 q1; go_simp; rfl) ?_
          | refine st_un rfl rfl rfl rfl (fun w' hw => by have x1 := rowF HR.out hw rfl i hi0 hi; go_simp; rfl) ?_
          | refine st_un rfl rfl rfl rfl (fun w' hw => by have x1 := rowD HR.out hw rfl k q0 q1; go_simp; rfl) ?_
          | refine st_un rfl rfl rfl rfl (fun w' hw => by have x1 := rowD HR.out hw rfl i hi0 hi; go_simp; rfl) ?_)
        intro w6 hb6
        simp only [puts, Act.put, List.setIfInBounds_toArray, List.set_cons_zero, List.set_cons_succ]
        have HB6 := Aside0.mk hb6; clear hb6
        go_wp2
        go_roundw
        case rel => exact ⟨k + 1, rfl, by omega, by omega, HB6⟩
        case measure => simp [intOf]; omega
    · go_wp2_with fail
      refine (topC HC.out HR.out HB3.out H2.out).mono ?_
      rintro e w4 ⟨rfl, hb⟩
      have HB4 := Aside0.mk hb; clear hb
      go_wp2_with fail
      have t1 : t < l.length := by omega
      have HB4' := Aside0.mk (below_drew HB4.out)
      have g1 : decide (i < t) = false := decide_eq_false (by omega)
      have g2 : decide (t < u) = false := decide_eq_false (by omega)
      have g3 : ((rd_T29 l t).f0 != (rd_T29 l i).f0) = false := by rw [HT.out.th]; simp
      have hd : ((rd_T29 l t).f1 == (rd_T29 l i).f1) = false ∨ ((rd_T29 l t).f1 == (rd_T29 l i).f1) = true ∧ (u != t) = false ∧ (is == was) = true ∧ (a == b) = true := by
        by_cases e : (rd_T29 l t).f1 = (rd_T29 l i).f1
        · obtain ⟨x, y, z⟩ := HDU.out e
          exact .inr ⟨beq_iff_eq.2 e, by simp [x], by simp [y], by simp [z]⟩
        · exact .inl (beq_eq_false_iff_ne.2 e)
      have hd' : ((rd_T29 l t).f1 != (rd_T29 l i).f1) = !((rd_T29 l t).f1 == (rd_T29 l i).f1) := rfl
      have HD := Aside0.mk hd
      have HD' := Aside0.mk hd'
      clear hd hd'
      rcases HD.out with hd | ⟨hd, hd2, hd3, hd4⟩
      all_goals
        have hd' := HD'.out
        rw [hd] at hd'
        refine wp_val (S := fun w' => Below w.heap.size w w') (by kernel_rfl) (by kernel_rfl) HB4'.out ?_
        repeat (first
          | refine st_skip rfl ?_
          | refine st_move rfl rfl ?_
          | refine st_assign rfl rfl ?_
          | refine st_pickT rfl rfl rfl ?_
          | refine st_pickF rfl rfl rfl ?_
          | refine st_bin rfl rfl rfl (fun w' hw => by go_simp; rfl) ?_
          | refine st_indexAddr rfl rfl rfl (fun w' hw => by go_simp; rfl) ?_
          | refine st_un rfl rfl rfl rfl (fun w' hw => by go_simp; rfl) ?_
          | refine st_un rfl rfl rfl rfl (fun w' hw => by have x1 := rowF HR.out hw rfl t ht0 t1; go_simp; rfl) ?_
          | refine st_un rfl rfl rfl rfl (fun w' hw => by have x1 := rowF HR.out hw rfl i hi0 hi; go_simp; rfl) ?_
          | refine st_un rfl rfl rfl rfl (fun w' hw => by have x1 := rowD HR.out hw rfl t ht0 t1; go_simp; rfl) ?_
          | refine st_un rfl rfl rfl rfl (fun w' hw => by have x1 := rowD HR.out hw rfl i hi0 hi; go_simp; rfl) ?_)
        intro w6 hb6
        simp only [puts, Act.put, List.setIfInBounds_toArray, List.set_cons_zero, List.set_cons_succ]
        have HB6 := Aside0.mk hb6; clear hb6
        go_wp2_with fail
        refine (nextC HC.out HR.out HB6.out H3.out).mono ?_
        rintro e w7 ⟨rfl, hb⟩
        have HB7 := Aside0.mk hb; clear hb
        go_wp2_with fail
        refine (nextC HC.out HR.out HB7.out H4.out).mono ?_
        rintro e w8 ⟨rfl, hb⟩
        have HB8 := Aside0.mk hb; clear hb
        go_wp2_with fail
        have HB8' := Aside0.mk (below_drew HB8.out)
        refine wp_val (S := fun w' => Below w.heap.size w w') (by kernel_rfl) (by kernel_rfl) HB8'.out ?_
        repeat (first
          | refine st_skip rfl ?_
          | refine st_move rfl rfl ?_
          | refine st_assign rfl rfl ?_
          | refine st_pickT rfl rfl rfl ?_
          | refine st_pickF rfl rfl rfl ?_
          | refine st_call rfl Try.func9 rfl rfl (by kernel_rfl) (fun w' hw => begunC hw) ?_
          | refine st_bin rfl rfl rfl (fun w' hw => by go_simp; rfl) ?_
          | refine st_indexAddr rfl rfl rfl (fun w' hw => by go_simp; rfl) ?_
          | refine st_un rfl rfl rfl rfl (fun w' hw => by go_simp; rfl) ?_
          | refine st_un rfl rfl rfl rfl (fun w' hw => by have x1 := rowD HR.out hw rfl t ht0 t1; go_simp; rfl) ?_
          | refine st_un rfl rfl rfl rfl (fun w' hw => by have x1 := rowD HR.out hw rfl i hi0 hi; go_simp; rfl) ?_)
        intro w9 hb9
        simp only [puts, Act.put, List.setIfInBounds_toArray, List.set_cons_zero, List.set_cons_succ]
        have HB9 := Aside0.mk hb9; clear hb9
        go_wp2
        go_ret
        exact ⟨rfl, HB9.out⟩

set_option maxHeartbeats 16000000 in
set_option maxRecDepth 100000 in
theorem top_not (w : World) (A : Option Addr) (c : Nat) (l : List S29) (lc : l.length ≤ c) (hr : Kd.C k29 w A l.length l) (i e0 : Int) (he : (e0 != 0) = true)
    (h1 : walk_Top.f 300 l i = some (0, e0)) :
    Calls Try.prog 5 #[.slice A l.length c, .int .i64 i] w fun e w' => e = .returned (.bool true) ∧ Below w.heap.size w w' := by
  have HR := Aside0.mk hr
  have HC := Aside0.mk lc
  have H1 := Aside0.mk h1
  clear hr lc h1
  have HB := Aside0.mk (Below.refl w.heap.size w)
  go_enter Try.func5, Try.ntmps5
  go_wp2_with fail
  refine (begunC HB.out).mono ?_
  rintro e w1 ⟨rfl, hb⟩
  have HB1 := Aside0.mk hb; clear hb
  go_wp2_with fail
  refine (topC HC.out HR.out HB1.out H1.out).mono ?_
  rintro e w2 ⟨rfl, hb⟩
  have HB2 := Aside0.mk hb; clear hb
  go_wp2_with fail
  refine (begunC HB2.out).mono ?_
  rintro e w6 ⟨rfl, hb⟩
  have HB6 := Aside0.mk hb; clear hb
  go_wp2
  go_ret
  exact ⟨rfl, HB6.out⟩

theorem walkTop_walk (w : World) (A : Option Addr) (c : Nat) (l : List S29) (lc : l.length ≤ c) (hr : Kd.C k29 w A l.length l) (_ : l.length ≤ 9223372036854775807 ∧ l.length * Try.prog.bytesOf 29 ≤ 140737488351232 ∧ ∀ a ∈ l, True)
    (i : Int) (_ : (Lit.int .i64 i).wf = true) :
    Calls Try.prog 5 #[.slice A l.length c, .int .i64 i] w fun e w' => e = .returned (.bool true) ∧ Below w.heap.size w w' := by
  by_cases h : okArgs l i 1
  · obtain ⟨h1, h2, h3, -, -⟩ := h
    obtain ⟨t, ht, HT⟩ := top_ok (l := l) (i := i) h1 h2 h3
    have t0 := HT.h0
    have t1 := HT.h1
    obtain ⟨u, hu, HU⟩ := top_ok (l := l) (i := t) h1 t0 (by omega)
    obtain ⟨⟨a, is, e1⟩, ha, na⟩ := next_ok (l := l) (i := i) (how := 3) ⟨h1, h2, h3, by omega, by omega⟩ 300 (by omega)
    obtain ⟨⟨b, was, e2⟩, hb, nb⟩ := next_ok (l := l) (i := t) (how := 3) ⟨h1, t0, by omega, by omega, by omega⟩ 300 (by omega)
    have z : ∀ {i how : Int} {r : Int × Bool × Int}, NextIs l i how (i + 1) r → r.2.2 = 0 := by
      rintro i how r (⟨j, rfl, _⟩ | ⟨rfl, _⟩) <;> rfl
    obtain rfl : e1 = 0 := z na
    obtain rfl : e2 = 0 := z nb
    refine top_yes w A c l lc hr i t u a b is was ht hu ha hb h1 h2 h3 HT HU.h1 (fun hd => ?_)
    have := top_next HT hd na nb
    simp only [Prod.mk.injEq] at this
    exact ⟨top_again HT HU hd, this.2.1, this.1⟩
  · obtain ⟨e, he, hc⟩ := check_no h
    exact top_not w A c l lc hr i e (bne_iff_ne.2 he) (top_no he hc)
end Go.Proofs.Ytjhbdddglhpneaa.WalkPure
