/- thin.Kept, thin.From, thin.Add: their walks. -/
import Derived.Test.YtaeamehngbfneaaThinK
namespace Go.Proofs.Ytaeamehngbfneaa.Th
open Go Go.RowKit Go.Lib Go.Proofs.YtaeamehngbfneaaW.PrintWords Go.Proofs.YtaeamehngbfneaaW.PrintLast Go.Proofs.YtaeamehngbfneaaW.PrintMore Go.Proofs.Ytaeamehngbfneaa.Bs
attribute [local go_sem] max2_int min2_int max_two min_two
set_option linter.unusedVariables false
set_option linter.unusedSimpArgs false

theorem cnt_lt {x : Int} : ∀ {l : List Int}, l.Pairwise (· < ·) → ∀ i (h : i < l.length), l[i] < x ↔ i < l.countP (· < x)
  | [], _, i, h => absurd h (Nat.not_lt_zero _)
  | a :: l, hs, i, h => by
    rw [List.pairwise_cons] at hs
    by_cases hax : a < x
    · rw [List.countP_cons_of_pos (by simpa using hax)]
      cases i with
      | zero => simpa using hax
      | succ i =>
        have := cnt_lt (x := x) hs.2 i (by simpa using h)
        rw [List.getElem_cons_succ, this]
        omega
    · rw [List.countP_cons_of_neg (by simpa using hax)]
      have h0 : l.countP (· < x) = 0 := by
        rw [List.countP_eq_zero]
        intro b hb
        have := hs.1 b hb
        simp only [decide_eq_true_eq]
        omega
      rw [h0]
      constructor
      · intro h1
        exfalso
        have : (a :: l)[i] ∈ a :: l := List.getElem_mem _
        rcases List.mem_cons.1 this with e | e
        · omega
        · have := hs.1 _ e; omega
      · intro h1; omega

theorem below_drewN (w : World) (q : Nat) : Below w.heap.size w (w.drewN q) := ⟨rfl, rfl, rfl, Nat.le_refl _, fun _ _ => rfl⟩

theorem search_calls (w : World) (g c : Nat) (l : List Int) (x : Int) (hA : At w g l) (hs : l.Pairwise (· < ·)) (hl : l.length ≤ 10000) :
    Calls Try.prog 27 #[.slice (some ⟨g, 0, none⟩) l.length c, .int .i64 x] w fun e w' => e = .returned (.tuple #[.int .i64 (l.countP (· < x) : Nat), .bool (l.contains x)]) ∧ Below w.heap.size w w' := by
  refine (Try.slices_BinarySearch_int g 0 l.length c l x w (Nat.le_refl _) (by omega) hA.out ?_).mono ?_
  · rw [List.take_length]; exact hs.imp (fun h => Int.le_of_lt h)
  · rintro e w' ⟨rfl, q, rfl⟩
    rw [List.take_length]
    exact ⟨rfl, below_drewN w q⟩
theorem equal_calls (w : World) (g c h d : Nat) (l m : List Int) (hA : At w g l) (hB : At w h m) (hl : l.length ≤ 10000) (hm : m.length ≤ 10000) :
    Calls Try.prog 28 #[.slice (some ⟨g, 0, none⟩) l.length c, .slice (some ⟨h, 0, none⟩) m.length d] w fun e w' => e = .returned (.bool (l == m)) ∧ Below w.heap.size w w' := by
  refine (Try.slices_Equal_int g 0 l.length c h 0 m.length d l m w (Nat.le_refl _) (Nat.le_refl _) (by omega) (by omega) hA.out hB.out).mono ?_
  rintro e w' ⟨rfl, q, rfl⟩
  rw [List.take_length, List.take_length]
  exact ⟨rfl, below_drewN w q⟩

theorem kept_le {n : Nat} (h : n ≤ 4000) : (kept n).length ≤ 26 := by
  have := kept_length n
  have := pw_le h
  omega

set_option maxHeartbeats 4000000 in
set_option maxRecDepth 100000 in
theorem Kept_ok (w : World) (n : Nat) (hn : n ≤ 4000) : Calls Try.prog 16 #[.int .i64 n] w fun e w' =>
    ∃ g c, e = .returned (.tuple #[.slice (some ⟨g, 0, none⟩) (kept n).length c, .int .i64 0]) ∧ (kept n).length ≤ c ∧ w.heap.size ≤ g ∧ At w' g (kept n) ∧ Below w.heap.size w w' := by
  have h1 : ¬ ((n : Int) > 4000) := by omega
  go_enter Try.func16, Try.ntmps16
  go_wp2_with fail
  refine (kept_calls _ n hn).mono ?_
  rintro e w1 ⟨g, c, rfl, hc, hcm, hg, hA, hB⟩
  have HA := Aside0.mk hA
  have HB := Aside0.mk hB
  clear hA hB
  go_wp2
  go_ret2
  exact ⟨g, c, rfl, hc, hg, HA.out, HB.out⟩

set_option maxHeartbeats 4000000 in
set_option maxRecDepth 100000 in
theorem Kept_bad (w : World) (n : Int) (hn : n < 0 ∨ 4000 < n) : Calls Try.prog 16 #[.int .i64 n] w fun e w' =>
    e = .returned (.tuple #[.slice none 0 0, .int .i64 1]) ∧ w = w' := by
  by_cases h0 : n < 0
  · go_enter Try.func16, Try.ntmps16
    go_wp2
    go_ret2
    exact ⟨rfl, rfl⟩
  · have h1 : n > 4000 := by omega
    have h2 : (0 : Int) ≤ n := by omega
    clear hn
    go_enter Try.func16, Try.ntmps16
    go_wp2
    go_ret2
    exact ⟨rfl, rfl⟩

/-- the last one that was seen -/
def lastOf (l : List Int) (k : Nat) : Int := (-1 :: l).getD k 0
theorem lastOf_lt {l : List Int} (hs : l.Pairwise (· < ·)) (h0 : ∀ x ∈ l, 0 ≤ x) {k : Nat} (hk : k < l.length) : lastOf l k < l.getD k 0 := by
  unfold lastOf
  rw [List.getD_eq_getElem?_getD, List.getD_eq_getElem?_getD]
  cases k with
  | zero =>
    have := h0 l[0] (List.getElem_mem _)
    simp [hk]; omega
  | succ k =>
    have := (List.pairwise_iff_getElem.1 hs) k (k + 1) (by omega) hk (by omega)
    rw [List.getElem?_cons_succ, List.getElem?_eq_getElem (by omega), List.getElem?_eq_getElem hk]
    exact this

def FromPost (w : World) (l : List Int) (x : Int) (e : Ending) (w' : World) : Prop :=
  ∃ r, e = .returned (.tuple #[.int .i64 r, .int .i64 0]) ∧ r ∈ l ∧ r ≤ x ∧ (∀ y ∈ l, y ≤ x → y ≤ r) ∧ Below w.heap.size w w'

set_option maxHeartbeats 4000000 in
set_option maxRecDepth 100000 in
theorem From_calls (w : World) (g c : Nat) (l : List Int) (x : Int) (hA : At w g l) (hc : l.length ≤ c) (hs : l.Pairwise (· < ·)) (h0 : ∀ y ∈ l, 0 ≤ y) (hl : l.length ≤ 10000) (hx : ∃ y ∈ l, y ≤ x) :
    Calls Try.prog 17 #[.slice (some ⟨g, 0, none⟩) l.length c, .int .i64 x] w (FromPost w l x) := by
  have HA := Aside0.mk hA
  have HS := Aside0.mk hs
  have H0 := Aside0.mk h0
  have HX := Aside0.mk hx
  clear hA hs h0 hx
  go_enter Try.func17, Try.ntmps17
  go_wp2
  go_loop [6, 8, 13] (fun last s8 i => ∃ k : Nat, k ≤ l.length ∧ i = .int .i64 k ∧ last = .int .i64 (lastOf l k)) (fun _ _ i => l.length - (intOf i).toNat)
  case atStart => exact ⟨0, Nat.zero_le _, rfl, rfl⟩
  case round =>
    obtain ⟨k, hk, rfl, rfl⟩ := hrel
    by_cases hlt : k < l.length
    · have hcell := HA.out.out k hlt
      rw [Nat.zero_add] at hcell
      have hlast := lastOf_lt HS.out H0.out hlt
      have hnext : lastOf l (k + 1) = l.getD k 0 := rfl
      have HN := Aside0.mk hnext
      generalize l.getD k 0 = y at hcell hlast HN
      generalize lastOf l k = z at hlast
      have hle : ¬ (y ≤ z) := by omega
      have z1 : (k : Int) < (l.length : Int) := by omega
      clear hnext
      go_wp2
      go_round
      case rel => exact ⟨k + 1, by omega, by go_num, by rw [HN.out]⟩
      case measure => simp [intOf]; omega
    · have hk' : k = l.length := by omega
      subst hk'
      go_wp2_with fail
      refine (search_calls _ g c l x HA.out HS.out hl).mono ?_
      rintro e w1 ⟨rfl, hb⟩
      have hcnt := fun i h => cnt_lt (x := x) HS.out i h
      have hcl : l.countP (· < x) ≤ l.length := List.countP_le_length
      generalize l.countP (· < x) = m at hcnt hcl
      have HC := Aside0.mk hcnt
      have HB := Aside0.mk hb
      clear hcnt hb
      cases hb : l.contains x with
      | true =>
        have hm : x ∈ l := by simpa using hb
        have HM := Aside0.mk hm
        clear hm hb
        go_wp2
        go_ret2
        exact ⟨x, rfl, HM.out, Int.le_refl _, fun _ _ h => h, HB.out⟩
      | false =>
        have hm : x ∉ l := by simpa using hb
        have hm0 : 0 < m := by
          obtain ⟨y, hy, hyx⟩ := HX.out
          obtain ⟨i, hi, rfl⟩ := List.mem_iff_getElem.1 hy
          have hne : l[i] ≠ x := fun e => hm (e ▸ hy)
          have := (HC.out i hi).1 (by omega)
          omega
        obtain ⟨p, rfl⟩ : ∃ p, m = p + 1 := ⟨m - 1, by omega⟩
        have hcell := (HA.out.below HB.out).out p (by omega)
        rw [Nat.zero_add] at hcell
        have e1 : l.getD p 0 = l[p] := by simp [List.getD_eq_getElem?_getD, show p < l.length by omega]
        have HE := Aside0.mk e1
        have HM := Aside0.mk hm
        have z1 : (p : Int) < (l.length : Int) := by omega
        have z2 : (((p + 1 : Nat) : Int) == 0) = false := by simp; omega
        clear e1 hm hb
        go_wp2
        go_ret2
        refine ⟨l.getD p 0, rfl, ?_, ?_, fun y hy hyx => ?_, HB.out⟩
        · rw [HE.out]; exact List.getElem_mem _
        · have := (HC.out p (by omega)).2 (by omega)
          rw [HE.out]; omega
        · obtain ⟨i, hi, rfl⟩ := List.mem_iff_getElem.1 hy
          have hne : l[i] ≠ x := fun e => HM.out (e ▸ hy)
          have h1 := (HC.out i hi).1 (by omega)
          rw [HE.out]
          rcases Nat.lt_or_eq_of_le (Nat.le_of_lt_succ h1) with h2 | rfl
          · exact Int.le_of_lt ((List.pairwise_iff_getElem.1 HS.out) i p hi (by omega) h2)
          · exact Int.le_refl _

def AddPost (w : World) (n : Nat) (e : Ending) (w' : World) : Prop :=
  ∃ g c A2 c2, e = .returned (.tuple #[.slice (some ⟨g, 0, none⟩) (kept (n + 1)).length c, .slice A2 (gone n).length c2, .int .i64 0]) ∧ (kept (n + 1)).length ≤ c ∧ w.heap.size ≤ g ∧ At w' g (kept (n + 1)) ∧
    (gone n).length ≤ c2 ∧ ReadsInt w' .i64 A2 (gone n).length (gone n) ∧ Below w.heap.size w w'

/-- who of the first k is gone -/
def goneTo (n k : Nat) : List Int := ((kept n).take k).filter (fun x => !(kept (n + 1)).contains x)
theorem goneTo_succ {n k : Nat} (h : k < (kept n).length) : goneTo n (k + 1) = goneTo n k ++ (if (kept (n + 1)).contains ((kept n).getD k 0) = true then [] else [(kept n).getD k 0]) := by
  unfold goneTo
  rw [List.take_succ_eq_append_getElem h, List.filter_append]
  congr 1
  rw [show (kept n).getD k 0 = (kept n)[k] by simp [List.getD_eq_getElem?_getD, h]]
  cases hb : (kept (n + 1)).contains (kept n)[k] with
  | true => rw [List.filter_cons_of_neg (by rw [hb]; simp)]; rfl
  | false => rw [List.filter_cons_of_pos (by rw [hb]; rfl)]; rfl
theorem goneTo_le (n k : Nat) : (goneTo n k).length ≤ (kept n).length := by
  unfold goneTo
  refine Nat.le_trans (List.length_filter_le _ _) ?_
  rw [List.length_take]; omega

set_option maxHeartbeats 8000000 in
set_option maxRecDepth 100000 in
theorem Add_calls (w : World) (g c : Nat) (n : Nat) (hn : n + 1 ≤ 4000) (hA : At w g (kept n)) (hc : (kept n).length ≤ c) :
    Calls Try.prog 18 #[.slice (some ⟨g, 0, none⟩) (kept n).length c, .int .i64 ((n : Int) + 1)] w (AddPost w n) := by
  have HA := Aside0.mk hA
  have hl := kept_le (n := n) (by omega)
  have hl1 := kept_le (n := n + 1) hn
  have h1 : ¬ ((n : Int) + 1 < 1) := by omega
  have h2 : ¬ ((n : Int) + 1 > 4000) := by omega
  have h3 : ¬ ((n : Int) < 0) := by omega
  clear hA
  go_enter Try.func18, Try.ntmps18
  go_wp2_with fail
  refine (kept_calls _ n (by omega)).mono ?_
  rintro e w1 ⟨g1, c1, rfl, hc1, hcm1, hg1, hA1, hB1⟩
  have HA1 := Aside0.mk hA1
  have HB1 := Aside0.mk hB1
  clear hA1 hB1
  go_wp2_with fail
  refine (equal_calls _ g c g1 c1 (kept n) (kept n) (HA.out.below HB1.out) HA1.out (by omega) (by omega)).mono ?_
  rintro e w2 ⟨rfl, hb⟩
  rw [show (kept n == kept n) = true by simp]
  have HB2 := Aside0.mk (below_then HB1.out HB1.out.size hb)
  clear hb
  go_wp2_with fail
  refine (kept_calls _ (n + 1) hn).mono ?_
  rintro e w3 ⟨g3, c3, rfl, hc3, hcm3, hg3, hA3, hB3⟩
  have HA3 := Aside0.mk hA3
  have HB3 := Aside0.mk (below_then HB2.out HB2.out.size hB3)
  have HA0 := Aside0.mk (HA.out.below HB3.out)
  have hg3' : w.heap.size ≤ g3 := Nat.le_trans HB2.out.size hg3
  clear hA3 hB3
  go_wp2
  go_loopw [8, 31] (fun v i wr => ∃ k : Nat, k ≤ (kept n).length ∧ i = .int .i64 k ∧ Aside0 (wr.ownsRow w3.heap.size 3 1 v (goneTo n k).length (nums .i64 (goneTo n k))) ∧ Aside0 (Below w3.heap.size w3 wr)) (fun _ i _ => (kept n).length - (intOf i).toNat)
  case atStart => exact ⟨0, Nat.zero_le _, rfl, ⟨by simpa [goneTo, nums] using World.ownsRow_nil _ _ _ _⟩, ⟨Below.refl _ _⟩⟩
  case round =>
    obtain ⟨k, hk, rfl, HO, HB⟩ := hrel
    by_cases hlt : k < (kept n).length
    · have hcell := (HA0.out.below HB.out).out k hlt
      rw [Nat.zero_add] at hcell
      have HG := Aside0.mk (goneTo_succ hlt)
      have HGL := Aside0.mk (goneTo_le n k)
      obtain ⟨y, hy⟩ : ∃ y, y = (kept n).getD k 0 := ⟨_, rfl⟩
      rw [← hy] at hcell HG
      clear hy
      have z1 : (k : Int) < ((kept n).length : Int) := by omega
      go_wp2_with fail
      refine (search_calls _ g3 c3 (kept (n + 1)) y (HA3.out.below HB.out) (kept_sorted _) (by omega)).mono ?_
      rintro e w4 ⟨rfl, hb⟩
      have HB4 := Aside0.mk (below_step HB.out hb)
      have HO4 := Aside0.mk (pw_own_below HO.out hb)
      clear hb
      cases hcn : (kept (n + 1)).contains y with
      | true =>
        have HN := Aside0.mk (show goneTo n (k + 1) = goneTo n k by rw [HG.out, if_pos hcn, List.append_nil])
        clear hcn
        go_wp2
        go_roundw
        case rel => exact ⟨k + 1, by omega, by go_num, by rw [HN.out]; exact HO4, HB4⟩
        case measure => simp [intOf]; omega
      | false =>
        have HN := Aside0.mk (show goneTo n (k + 1) = goneTo n k ++ [y] by rw [HG.out, if_neg (by rw [hcn]; simp)])
        clear hcn
        go_wp2_with (at_builtin; refine print_append_row (w0 := w3) w3.heap.size rfl _ _ 22 3 .i64 8 rfl Try.underlying22 infoInt (by decide) _ (goneTo n k) [y] _ 1 1 rfl rfl (HO4.out.alloc _) (reads_lit _ [y] (by simp) _) (below_alloc HB4.out _) (below_alloc HB4.out _).size (by have := HGL.out; omega) ?_; intro v1 w5 hown hB hg hat; have HO5 := Aside0.mk hown; have HB5 := Aside0.mk hB; clear hown hB hg hat)
        go_roundw
        case rel => exact ⟨k + 1, by omega, by go_num, ⟨by rw [HN.out]; exact HO5.out⟩, HB5⟩
        case measure => simp [intOf]; omega
    · have hk' : k = (kept n).length := by omega
      subst hk'
      have hgo : goneTo n (kept n).length = gone n := by unfold goneTo gone; rw [List.take_length]
      have ho := HO.out
      rw [hgo] at ho
      obtain ⟨A2, c2, rfl, hc2, hr2⟩ := own_rd ho
      have HR2 := Aside0.mk hr2
      clear ho hr2 hgo HO
      go_wp2
      go_ret3
      exact ⟨g3, c3, A2, c2, rfl, hc3, hg3', HA3.out.below HB.out, hc2, HR2.out, below_then HB3.out HB3.out.size HB.out⟩
end Go.Proofs.Ytaeamehngbfneaa.Th
