/- check, pair, before, Before, Of, Apart, Edges: their walks. before, Before, Of, Apart, Edges: their walks. Before, Of, Apart, Edges: their walks. -/
import Derived.Test.YtginlhengebgaaaCkE
namespace Go.Proofs.Ytginlhengebgaaa.Ck
open Go Go.RowKit Go.Maps Go.Proofs.YtginlhengebgaaaW Go.Proofs.YtginlhengebgaaaW.PrintWords Go.Proofs.YtginlhengebgaaaW.PrintLast Go.Proofs.YtginlhengebgaaaW.PrintMore Go.Proofs.Ytginlhengebgaaa.PLockupEither Go.Proofs.Ytginlhengebgaaa.Bs Go.Proofs.Ytginlhengebgaaa.RegionVal Go.Proofs.Ytginlhengebgaaa.Lk
open Go.Lib hiding intOf
set_option linter.unusedVariables false
set_option linter.unusedSimpArgs false
/-- the first of which it is said; -1: there is none -/
def idx (p : CE → Bool) (xs : List CE) : Int := match xs.findIdx? p with
  | some k => (k : Int)
  | none => -1
theorem idx_any (p : CE → Bool) (xs : List CE) : decide (0 ≤ idx p xs) = xs.any p := by
  unfold idx
  cases h : xs.findIdx? p with
  | some k =>
    obtain ⟨hk, h1, _⟩ := List.findIdx?_eq_some_iff_getElem.1 h
    have : xs.any p = true := List.any_eq_true.2 ⟨_, List.getElem_mem hk, h1⟩
    rw [this]
    simp
  | none =>
    have h1 := List.findIdx?_eq_none_iff.1 h
    have : xs.any p = false := List.any_eq_false.2 (fun x hx => by simp [h1 x hx])
    rw [this]
    rfl
theorem idx_at {p : CE → Bool} {xs : List CE} {k : Nat} (hk : k < xs.length) (h1 : p xs[k] = true) (h0 : ∀ j (hj : j < k), p (xs[j]'(by omega)) = false) : idx p xs = (k : Int) := by
  unfold idx
  rw [List.findIdx?_eq_some_iff_getElem.2 ⟨hk, h1, fun j hj => by simp [h0 j hj]⟩]
theorem idx_none {p : CE → Bool} {xs : List CE} (h0 : ∀ j (hj : j < xs.length), p xs[j] = false) : idx p xs = -1 := by
  unfold idx
  rw [List.findIdx?_eq_none_iff.2 (fun x hx => by
    obtain ⟨j, hj, rfl⟩ := List.getElem_of_mem hx
    exact h0 j hj)]
def badT (T : Int) (x : CE) : Bool := decide (x.t < 0) || decide (T ≤ x.t)
theorem bad_calls (W : World) (gt : Nat) (T : Int) (x : CE) (cs : List Value) (hx : x.In cs) (hb : W.heap[gt]? = some (.cells #[.int .i64 T] 3 (0, 0))) :
    Calls Try.prog 50 #[.agg cs.toArray, .pointer (some ⟨gt, 0, none⟩)] W fun e w' => e = .returned (.bool (badT T x)) ∧ Below W.heap.size W w' := by
  have hev : EvC W.heap.size x (W.alloc (.cells cs.toArray 41)) := ⟨cs.toArray, heap_alloc_new W _, by simpa using hx⟩
  have k2 := hev.cell.2.1
  have kT : (W.alloc (.cells cs.toArray 41)).cell? ⟨gt, 0, none⟩ = some (.int .i64 T) := by rw [blk_cell (blk_alloc hb _)]; rfl
  have HB := Aside0.mk (below_alloc (Below.refl W.heap.size W) (.cells cs.toArray 41))
  clear hev hx hb
  unfold badT
  obtain ⟨t, ht⟩ : ∃ t, t = x.t := ⟨_, rfl⟩
  rw [← ht] at k2 ⊢
  clear ht
  go_enter Try.func50, Try.ntmps50
  by_cases h0 : t < 0
  · have d1 : decide (t < 0) = true := decide_eq_true h0
    rw [d1]
    go_wp2
    go_ret
    exact ⟨rfl, HB.out⟩
  · have d1 : decide (t < 0) = false := decide_eq_false h0
    rw [d1]
    by_cases h1 : T ≤ t
    · rw [decide_eq_true h1]
      go_wp2
      go_ret
      exact ⟨rfl, HB.out⟩
    · rw [decide_eq_false h1]
      have h2 : t < T := by omega
      go_wp2
      go_ret
      exact ⟨rfl, HB.out⟩
set_option maxHeartbeats 8000000 in
set_option maxRecDepth 100000 in
theorem index_calls (w : World) (A : Option Addr) (c : Nat) (xs : List CE) (gt : Nat) (T : Int) (hr : Kd.C kC w A xs.length xs) (hc : xs.length ≤ c) (hb : w.heap[gt]? = some (.cells #[.int .i64 T] 3 (0, 0))) :
    Calls Try.prog 71 #[.slice A xs.length c, .func (.func 50) #[] #[.pointer (some ⟨gt, 0, none⟩)]] w fun e w' => e = .returned (.int .i64 (idx (badT T) xs)) ∧ Below w.heap.size w w' := by
  have hn : xs.length ≤ 9223372036854775807 := hr.2.1
  have HR := Aside0.mk hr
  have HT := Aside0.mk hb
  have eg : ∀ args w, (callFunc 50 args).run Try.prog w = .ok (.enter 50 args) w := fun args w => enters_ Try.func50 (by kernel_rfl) rfl args w
  clear hr hb
  go_enter Try.func71, Try.ntmps71
  go_wp2_with fail
  go_loopw [8] (fun i wr => ∃ k : Nat, k ≤ xs.length ∧ i = .int .i64 (k : Int) ∧ Aside0 (∀ j (hj : j < k) (hj' : j < xs.length), badT T xs[j] = false) ∧ Aside0 (Below w.heap.size w wr)) (fun i _ => xs.length - (intOf i).toNat)
  case atStart => exact ⟨0, Nat.zero_le _, rfl, ⟨fun j hj => absurd hj (by omega)⟩, ⟨Below.refl _ _⟩⟩
  case round =>
    obtain ⟨k, hk, rfl, HP, HB⟩ := hrel
    by_cases hlt : k < xs.length
    · have hk1 : (k : Int) < (xs.length : Int) := by omega
      obtain ⟨ad, hA⟩ : ∃ ad, A = some ad := by
        obtain ⟨ad, h, _⟩ := HR.out.2.2 (show 0 < xs.length by omega)
        exact ⟨ad, h⟩
      subst hA
      obtain ⟨cs, hcs, hld⟩ := C_loadC (Kd.C_below HR.out HB.out) k hlt
      have HL := Aside0.mk hld
      have HC := Aside0.mk (bad_calls wr gt T xs[k] cs hcs (blk_below HT.out (Below.mono HB.out (Nat.le_refl _))))
      obtain ⟨z, hz⟩ : ∃ z, z = xs[k] := ⟨_, rfl⟩
      rw [← hz] at HC
      have HZ := Aside0.mk hz
      clear hz hcs hld
      go_wp2_with (first
        | ((with_reducible refine gate_dst (N := 15) rfl ?_); refine wpl_load (v := .agg cs.toArray) rfl rfl rfl HL.out ?_)
        | fail)
      refine HC.out.mono ?_
      rintro e w2 ⟨rfl, hb⟩
      have HB2 := Aside0.mk (below_then HB.out HB.out.size hb)
      clear hb
      cases hp : badT T z with
      | true =>
        have HX := Aside0.mk (show idx (badT T) xs = (k : Int) from idx_at hlt (by rw [← HZ.out]; exact hp) (fun j hj => HP.out j hj (by omega)))
        clear hp
        go_wp2
        go_ret
        exact ⟨by rw [HX.out]; rfl, HB2.out⟩
      | false =>
        have HX := Aside0.mk hp
        clear hp
        go_wp2
        go_roundw
        case rel => exact ⟨k + 1, by omega, by go_num, ⟨fun j hj hj' => by
          by_cases e : j = k
          · subst e; rw [← HZ.out]; exact HX.out
          · exact HP.out j (by omega) hj'⟩, HB2⟩
        case measure => simp [intOf]; omega
    · have hk' : k = xs.length := by omega
      subst hk'
      have HX := Aside0.mk (show idx (badT T) xs = -1 from idx_none (fun j hj => HP.out j hj hj))
      go_wp2
      go_ret
      exact ⟨by rw [HX.out]; rfl, HB.out⟩
set_option maxHeartbeats 8000000 in
set_option maxRecDepth 100000 in
theorem contains_calls (w : World) (A : Option Addr) (c : Nat) (xs : List CE) (gt : Nat) (T : Int) (hr : Kd.C kC w A xs.length xs) (hc : xs.length ≤ c) (hb : w.heap[gt]? = some (.cells #[.int .i64 T] 3 (0, 0))) :
    Calls Try.prog 49 #[.slice A xs.length c, .func (.func 50) #[] #[.pointer (some ⟨gt, 0, none⟩)]] w fun e w' => e = .returned (.bool (xs.any (badT T))) ∧ Below w.heap.size w w' := by
  have HR := Aside0.mk hr
  have HF := Aside0.mk hb
  clear hr hb
  go_enter Try.func49, Try.ntmps49
  go_wp2_with fail
  refine (index_calls w A c xs gt T HR.out hc HF.out).mono ?_
  rintro e w1 ⟨rfl, hb⟩
  have HB := Aside0.mk hb
  have HI := Aside0.mk (idx_any (badT T) xs)
  clear hb
  generalize idx (badT T) xs = q at HI ⊢
  go_wp2
  go_ret
  exact ⟨by rw [← HI.out]; rfl, HB.out⟩
/-- what check says -/
def chkF (l : List CE) (T : Int) : Int := if 200 < l.length then 2 else if T < 0 ∨ 8 < T then 1 else if l.any (badT T) then 1 else 0
theorem chk_ok {l : List CE} {T : Int} (h : chkF l T = 0) : l.length ≤ 200 ∧ (∃ th : Nat, T = (th : Int) ∧ th ≤ 8 ∧ ∀ x ∈ l, 0 ≤ x.t ∧ x.t < (th : Int)) := by
  unfold chkF at h
  split at h
  · cases h
  · rename_i h1
    split at h
    · cases h
    · rename_i h2
      cases ha : l.any (badT T) with
      | true => rw [ha] at h; cases h
      | false =>
        refine ⟨by omega, T.toNat, by omega, by omega, fun x hx => ?_⟩
        have h3 := List.any_eq_false.1 ha x hx
        unfold badT at h3
        simp at h3
        omega
set_option maxHeartbeats 8000000 in
set_option maxRecDepth 100000 in
theorem check_calls (w : World) (A : Option Addr) (c : Nat) (l : List CE) (T : Int) (hr : Kd.C kC w A l.length l) (hc : l.length ≤ c) :
    Calls Try.prog 40 #[.slice A l.length c, .int .i64 T] w fun e w' => e = .returned (.int .i64 (chkF l T)) ∧ Below w.heap.size w w' := by
  have HR := Aside0.mk (Kd.C_below hr (below_alloc (Below.refl w.heap.size w) (.cells #[.int .i64 T] 3)))
  have HB := Aside0.mk (below_alloc (Below.refl w.heap.size w) (.cells #[.int .i64 T] 3))
  have HN := Aside0.mk (heap_alloc_new w (.cells #[.int .i64 T] 3))
  have kT : (w.alloc (.cells #[.int .i64 T] 3)).cell? ⟨w.heap.size, 0, none⟩ = some (.int .i64 T) := by rw [blk_cell (heap_alloc_new w _)]; rfl
  clear hr
  go_enter Try.func40, Try.ntmps40
  by_cases h1 : 200 < l.length
  · have h1i : (200 : Int) < (l.length : Int) := by omega
    have HX := Aside0.mk (show chkF l T = 2 by unfold chkF; rw [if_pos h1])
    go_wp2
    go_ret
    exact ⟨by rw [HX.out]; rfl, HB.out⟩
  · have h1i : ¬ (200 : Int) < (l.length : Int) := by omega
    by_cases h2 : T < 0
    · have HX := Aside0.mk (show chkF l T = 1 by unfold chkF; rw [if_neg h1, if_pos (.inl h2)])
      go_wp2
      go_ret
      exact ⟨by rw [HX.out]; rfl, HB.out⟩
    · by_cases h3 : 8 < T
      · have HX := Aside0.mk (show chkF l T = 1 by unfold chkF; rw [if_neg h1, if_pos (.inr h3)])
        go_wp2
        go_ret
        exact ⟨by rw [HX.out]; rfl, HB.out⟩
      · have HX := Aside0.mk (show chkF l T = if l.any (badT T) then 1 else 0 by unfold chkF; rw [if_neg h1, if_neg (by omega)])
        go_wp2_with fail
        refine (contains_calls _ A c l w.heap.size T HR.out hc HN.out).mono ?_
        rintro e w1 ⟨rfl, hb⟩
        have HB1 := Aside0.mk (below_then HB.out HB.out.size hb)
        clear hb kT
        cases ha : l.any (badT T) with
        | true =>
          rw [ha] at HX
          go_wp2
          go_ret
          exact ⟨by rw [HX.out]; rfl, HB1.out⟩
        | false =>
          rw [ha] at HX
          go_wp2
          go_ret
          exact ⟨by rw [HX.out]; rfl, HB1.out⟩
/-- what pair says -/
def pairF (l : List CE) (T i j : Int) : Int := if chkF l T = 0 ∧ (i < 0 ∨ (l.length : Int) ≤ i ∨ j < 0 ∨ (l.length : Int) ≤ j) then 1 else chkF l T
theorem pair_ok {l : List CE} {T i j : Int} (h : pairF l T i j = 0) : chkF l T = 0 ∧ 0 ≤ i ∧ i < (l.length : Int) ∧ 0 ≤ j ∧ j < (l.length : Int) := by
  unfold pairF at h
  split at h
  · cases h
  · rename_i h1
    refine ⟨h, ?_⟩
    have h2 : ¬ (i < 0 ∨ (l.length : Int) ≤ i ∨ j < 0 ∨ (l.length : Int) ≤ j) := fun h2 => h1 ⟨h, h2⟩
    omega
theorem pair_of {l : List CE} {T i j : Int} (h : chkF l T = 0) (hi : 0 ≤ i ∧ i < (l.length : Int)) (hj : 0 ≤ j ∧ j < (l.length : Int)) : pairF l T i j = 0 := by
  unfold pairF
  rw [if_neg (by rintro ⟨_, h2⟩; omega), h]
set_option maxHeartbeats 8000000 in
set_option maxRecDepth 100000 in
theorem pair_calls (w : World) (A : Option Addr) (c : Nat) (l : List CE) (T i j : Int) (hr : Kd.C kC w A l.length l) (hc : l.length ≤ c) :
    Calls Try.prog 37 #[.slice A l.length c, .int .i64 T, .int .i64 i, .int .i64 j] w fun e w' => e = .returned (.int .i64 (pairF l T i j)) ∧ Below w.heap.size w w' := by
  have HR := Aside0.mk hr
  have hn : l.length ≤ 9223372036854775807 := hr.2.1
  clear hr
  go_enter Try.func37, Try.ntmps37
  go_wp2_with fail
  refine (check_calls w A c l T HR.out hc).mono ?_
  rintro e w1 ⟨rfl, hb⟩
  have HB := Aside0.mk hb
  clear hb
  have HPF := Aside0.mk (show pairF l T i j = if chkF l T = 0 ∧ (i < 0 ∨ (l.length : Int) ≤ i ∨ j < 0 ∨ (l.length : Int) ≤ j) then 1 else chkF l T from rfl)
  generalize chkF l T = q at HPF ⊢
  by_cases hq : q = 0
  · have d1 : (q == 0) = true := beq_iff_eq.2 hq
    by_cases h1 : i < 0
    · have HX := Aside0.mk (show pairF l T i j = 1 by rw [HPF.out, if_pos ⟨hq, .inl h1⟩])
      clear hq
      go_wp2
      go_ret
      exact ⟨by rw [HX.out]; rfl, HB.out⟩
    · by_cases h2 : (l.length : Int) ≤ i
      · have HX := Aside0.mk (show pairF l T i j = 1 by rw [HPF.out, if_pos ⟨hq, .inr (.inl h2)⟩])
        clear hq
        go_wp2
        go_ret
        exact ⟨by rw [HX.out]; rfl, HB.out⟩
      · by_cases h3 : j < 0
        · have HX := Aside0.mk (show pairF l T i j = 1 by rw [HPF.out, if_pos ⟨hq, .inr (.inr (.inl h3))⟩])
          have h2' : i < (l.length : Int) := by omega
          clear hq
          go_wp2
          go_ret
          exact ⟨by rw [HX.out]; rfl, HB.out⟩
        · by_cases h4 : (l.length : Int) ≤ j
          · have HX := Aside0.mk (show pairF l T i j = 1 by rw [HPF.out, if_pos ⟨hq, .inr (.inr (.inr h4))⟩])
            have h2' : i < (l.length : Int) := by omega
            clear hq
            go_wp2
            go_ret
            exact ⟨by rw [HX.out]; rfl, HB.out⟩
          · have HX := Aside0.mk (show pairF l T i j = q by rw [HPF.out, if_neg (by rintro ⟨_, h5⟩; omega)])
            have h2' : i < (l.length : Int) := by omega
            have h4' : j < (l.length : Int) := by omega
            clear hq
            go_wp2
            go_ret
            exact ⟨by rw [HX.out]; rfl, HB.out⟩
  · have d1 : (q == 0) = false := beq_eq_false_iff_ne.2 hq
    have HX := Aside0.mk (show pairF l T i j = q by rw [HPF.out, if_neg (fun h => hq h.1)])
    clear hq
    go_wp2
    go_ret
    exact ⟨by rw [HX.out]; rfl, HB.out⟩
end Go.Proofs.Ytginlhengebgaaa.Ck
namespace Go.Proofs.Ytginlhengebgaaa.Ck
open Go Go.RowKit Go.Maps Go.Proofs.YtginlhengebgaaaW Go.Proofs.YtginlhengebgaaaW.PrintWords Go.Proofs.YtginlhengebgaaaW.PrintLast Go.Proofs.YtginlhengebgaaaW.PrintMore Go.Proofs.Ytginlhengebgaaa.PLockupEither Go.Proofs.Ytginlhengebgaaa.Bs Go.Proofs.Ytginlhengebgaaa.RegionVal Go.Proofs.Ytginlhengebgaaa.Lk
open Go.Lib hiding intOf
set_option linter.unusedVariables false
set_option linter.unusedSimpArgs false
/-- by rows of clocks -/
def befR (l : List CE) (R : List (List Int)) (i j : Nat) : Bool := decide (i ≠ j) && decide ((R.getD i []).getD (thr l i) 0 ≤ (R.getD j []).getD (thr l i) 0)
theorem cellE {w : World} {ad : Addr} {n : Nat} {xs : List CE} (h : Kd.C kC w (some ad) n xs) {i : Nat} (hi : i < xs.length) : w.cell? ⟨(ad.add (i * 12)).block, (ad.add (i * 12)).off + 2, none⟩ = some (.int .i64 xs[i].t) := by
  obtain ⟨ad', c, e, hl, hK, hc⟩ := Kd.C_get h zC (i : Int) (by omega) (by have := h.1; omega)
  obtain rfl := Option.some.inj e
  rw [show xs.getD (Int.toNat (i : Int)) zC = xs[i] by simp [List.getD_eq_getElem?_getD, hi]] at hK
  have hK2 : (xs[i]).In c := hK
  have h1 := hc 2 _ hK2.2.2.2.1
  rw [Int.toNat_natCast, show kC.sz = 12 from rfl, ← ad_add] at h1
  exact h1
theorem CK.get {w : World} {g0 th : Nat} {R : List (List Int)} (h : CK w g0 th R) {i t : Nat} (hi : i < R.length) (ht : t < th) : w.cell? ⟨g0 + 1 + i, t, none⟩ = some (.int .i64 ((R.getD i []).getD t 0)) := by
  rw [show R.getD i [] = R[i] by simp [List.getD_eq_getElem?_getD, hi]]
  exact h.cellR hi ht
set_option maxHeartbeats 8000000 in
set_option maxRecDepth 100000 in
theorem before_calls (w : World) (A : Option Addr) (c : Nat) (l : List CE) (g0 th : Nat) (R : List (List Int)) (i j : Nat) (hr : Kd.C kC w A l.length l) (hn : l.length ≤ 200) (hR : R.length = l.length) (hk : CK w g0 th R) (hi : i < l.length) (hj : j < l.length) (hth : th ≤ 8) (ht : ∀ x ∈ l, 0 ≤ x.t ∧ x.t < (th : Int)) :
    Calls Try.prog 38 #[.slice A l.length c, .slice (some ⟨g0, 0, none⟩) l.length l.length, .int .i64 (i : Int), .int .i64 (j : Int)] w fun e w' => e = .returned (.bool (befR l R i j)) ∧ Below w.heap.size w w' := by
  obtain ⟨ad, hA⟩ : ∃ ad, A = some ad := by
    obtain ⟨ad, h, _⟩ := hr.2.2 (show 0 < l.length by omega)
    exact ⟨ad, h⟩
  subst hA
  have hx := ht l[i] (List.getElem_mem hi)
  have hgx : l.getD i zC = l[i] := by simp [List.getD_eq_getElem?_getD, hi]
  obtain ⟨tn, htn⟩ : ∃ tn : Nat, (tn : Int) = l[i].t := ⟨l[i].t.toNat, by omega⟩
  have htn2 : tn < th := by omega
  have htn3 : (tn : Int) < (th : Int) := by omega
  have hi1 : (i : Int) < (l.length : Int) := by omega
  have hj1 : (j : Int) < (l.length : Int) := by omega
  have k2 := cellE hr hi
  rw [← htn] at k2
  obtain ⟨a, ha⟩ : ∃ a, a = (R.getD i []).getD tn 0 := ⟨_, rfl⟩
  obtain ⟨b, hb⟩ : ∃ b, b = (R.getD j []).getD tn 0 := ⟨_, rfl⟩
  have HBF := Aside0.mk (show befR l R i j = (decide (i ≠ j) && decide (a ≤ b)) by
    unfold befR thr
    rw [hgx, ← htn, Int.toNat_natCast, ha, hb])
  have ca : w.cell? ⟨g0 + 1 + i, tn, none⟩ = some (.int .i64 a) := by rw [ha]; exact hk.get (by omega) htn2
  have cb : w.cell? ⟨g0 + 1 + j, tn, none⟩ = some (.int .i64 b) := by rw [hb]; exact hk.get (by omega) htn2
  have ci : w.cell? ⟨g0, i, none⟩ = some (slot g0 th i) := hk.cellT (by omega)
  have cj : w.cell? ⟨g0, j, none⟩ = some (slot g0 th j) := hk.cellT (by omega)
  have HC := Aside0.mk (And.intro ci (And.intro cj (And.intro ca cb)))
  clear ha hb ca cb ci cj hk hr ht hx hgx htn hR
  go_enter Try.func38, Try.ntmps38
  go_wp2_with fail
  have hdr : ∀ p, w.drew.cell? p = w.cell? p := fun _ => rfl
  by_cases hij : i = j
  · have d1 : ((i : Int) != (j : Int)) = false := by rw [hij]; simp
    have HX := Aside0.mk (show befR l R i j = false by rw [HBF.out, decide_eq_false (fun h => h hij)]; rfl)
    clear hij
    refine wp_val (S := fun w' => Below w.heap.size w w') (by kernel_rfl) (by kernel_rfl) (below_drew1 (Below.refl _ _)) ?_
    repeat (first
      | refine st_skip rfl ?_
      | refine st_move rfl rfl ?_
      | refine st_assign rfl rfl ?_
      | refine st_pickT rfl rfl rfl ?_
      | refine st_pickF rfl rfl rfl ?_
      | refine st_bin rfl rfl rfl (fun w' hw => by go_simp; rfl) ?_
      | refine st_indexAddr rfl rfl rfl (fun w' hw => by go_simp; rfl) ?_
      | refine st_un rfl rfl rfl rfl (fun w' hw => by go_simp; rfl) ?_
      | refine st_builtin rfl rfl (fun w' hw => by go_simp; rfl) ?_
      | refine st_slice rfl rfl rfl rfl rfl (fun w' hw => by go_simp; rfl) ?_)
    intro w6 hw6
    have HB6 := Aside0.mk hw6
    clear hw6
    simp only [puts, Act.put, List.setIfInBounds_toArray, List.set_cons_zero, List.set_cons_succ]
    go_wp2
    go_ret
    exact ⟨by rw [HX.out]; rfl, HB6.out⟩
  · have d1 : ((i : Int) != (j : Int)) = true := bne_iff_ne.2 (by omega)
    have HX := Aside0.mk (show befR l R i j = decide (a ≤ b) by rw [HBF.out, decide_eq_true (show i ≠ j from hij), Bool.true_and])
    clear hij
    refine wp_val (S := fun w' => Below w.heap.size w w' ∧ w'.cell? ⟨g0, i, none⟩ = some (slot g0 th i) ∧ w'.cell? ⟨g0, j, none⟩ = some (slot g0 th j) ∧ w'.cell? ⟨g0 + 1 + i, tn, none⟩ = some (.int .i64 a) ∧ w'.cell? ⟨g0 + 1 + j, tn, none⟩ = some (.int .i64 b)) (by kernel_rfl) (by kernel_rfl) ⟨below_drew1 (Below.refl _ _), HC.out.1, HC.out.2.1, HC.out.2.2.1, HC.out.2.2.2⟩ ?_
    repeat (first
      | refine st_indexAddr (vx := .slice (some ⟨g0, 0, none⟩) l.length l.length) (vy := .int .i64 (i : Int)) (v := .pointer (some ⟨g0, i, none⟩)) rfl rfl rfl (fun w' hw => by go_simp) ?_
      | refine st_indexAddr (vx := .slice (some ⟨g0, 0, none⟩) l.length l.length) (vy := .int .i64 (j : Int)) (v := .pointer (some ⟨g0, j, none⟩)) rfl rfl rfl (fun w' hw => by go_simp) ?_
      | refine st_indexAddr (vx := .slice (some ⟨g0 + 1 + i, 0, none⟩) th th) (v := .pointer (some ⟨g0 + 1 + i, tn, none⟩)) rfl rfl rfl (fun w' hw => by go_simp) ?_
      | refine st_indexAddr (vx := .slice (some ⟨g0 + 1 + j, 0, none⟩) th th) (v := .pointer (some ⟨g0 + 1 + j, tn, none⟩)) rfl rfl rfl (fun w' hw => by go_simp) ?_
      | refine st_skip rfl ?_
      | refine st_move rfl rfl ?_
      | refine st_assign rfl rfl ?_
      | refine st_pickT rfl rfl rfl ?_
      | refine st_pickF rfl rfl rfl ?_
      | refine st_bin rfl rfl rfl (fun w' hw => by go_simp; rfl) ?_
      | refine st_indexAddr rfl rfl rfl (fun w' hw => by go_simp; rfl) ?_
      | refine st_un rfl rfl rfl rfl (fun w' hw => by go_simp; rfl) ?_
      | refine st_builtin rfl rfl (fun w' hw => by go_simp; rfl) ?_
      | refine st_slice rfl rfl rfl rfl rfl (fun w' hw => by go_simp; rfl) ?_
      | refine st_load (v := .slice (some ⟨g0 + 1 + i, 0, none⟩) th th) rfl rfl (fun w' hw => ldT hw.2.1) ?_
      | refine st_load (v := .slice (some ⟨g0 + 1 + j, 0, none⟩) th th) rfl rfl (fun w' hw => ldT hw.2.2.1) ?_
      | refine st_load (v := .int .i64 a) rfl rfl (fun w' hw => ldR hw.2.2.2.1) ?_
      | refine st_load (v := .int .i64 b) rfl rfl (fun w' hw => ldR hw.2.2.2.2) ?_)
    intro w6 hw6
    have HB6 := Aside0.mk hw6.1
    clear hw6
    simp only [puts, Act.put, List.setIfInBounds_toArray, List.set_cons_zero, List.set_cons_succ]
    go_wp2
    go_ret
    exact ⟨by rw [HX.out]; rfl, HB6.out⟩
end Go.Proofs.Ytginlhengebgaaa.Ck
namespace Go.Proofs.Ytginlhengebgaaa.Ck
open Go Go.RowKit Go.Maps Go.Proofs.YtginlhengebgaaaW Go.Proofs.YtginlhengebgaaaW.PrintWords Go.Proofs.YtginlhengebgaaaW.PrintLast Go.Proofs.YtginlhengebgaaaW.PrintMore Go.Proofs.Ytginlhengebgaaa.PLockupEither Go.Proofs.Ytginlhengebgaaa.Bs Go.Proofs.Ytginlhengebgaaa.RegionVal Go.Proofs.Ytginlhengebgaaa.Lk
open Go.Lib hiding intOf
set_option linter.unusedVariables false
set_option linter.unusedSimpArgs false
/-- by clocks -/
def bef (l : List CE) (th : Nat) (E : List S32) (i j : Nat) : Bool := decide (i ≠ j) && decide (cl l th E i (thr l i) ≤ cl l th E j (thr l i))
theorem befR_rows {l : List CE} {th : Nat} {E : List S32} {i j : Nat} (hi : i < l.length) (hj : j < l.length) : befR l (rowsF l th E l.length) i j = bef l th E i j := by
  unfold befR bef
  rw [cl_of hi, cl_of hj]
set_option maxHeartbeats 8000000 in
set_option maxRecDepth 100000 in
theorem Before_calls (w : World) (A : Option Addr) (c : Nat) (l : List CE) (T i j : Int) (hr : Kd.C kC w A l.length l) (hc : l.length ≤ c) :
    Calls Try.prog 19 #[.slice A l.length c, .int .i64 T, .int .i64 i, .int .i64 j] w fun e w' => ∃ b, e = .returned (.tuple #[.bool b, .int .i64 (pairF l T i j)]) ∧ (pairF l T i j ≠ 0 → b = false) ∧ (pairF l T i j = 0 → ∃ E, IsE l E ∧ b = bef l T.toNat E i.toNat j.toNat) ∧ Below w.heap.size w w' := by
  have HR := Aside0.mk hr
  clear hr
  by_cases hq : pairF l T i j = 0
  · obtain ⟨hck, hi0, hi1, hj0, hj1⟩ := pair_ok hq
    obtain ⟨hl, th, hT, hth, ht⟩ := chk_ok hck
    obtain ⟨i', hi'⟩ : ∃ i' : Nat, i = (i' : Int) := ⟨i.toNat, by omega⟩
    obtain ⟨j', hj'⟩ : ∃ j' : Nat, j = (j' : Int) := ⟨j.toNat, by omega⟩
    subst hT hi' hj'
    have HQ := Aside0.mk hq
    have HP := Aside0.mk (pair_calls w A c l (th : Int) (i' : Int) (j' : Int) HR.out hc)
    rw [HQ.out] at HP
    have HT := Aside0.mk ht
    have hi2 : i' < l.length := by omega
    have hj2 : j' < l.length := by omega
    clear hq hck ht hi0 hi1 hj0 hj1
    go_enter Try.func19, Try.ntmps19
    go_wp2_with fail
    refine HP.out.mono ?_
    rintro e w1 ⟨rfl, hb1⟩
    have HB1 := Aside0.mk hb1
    have HR1 := Aside0.mk (Kd.C_below HR.out hb1)
    clear hb1 HP
    go_wp2_with fail
    refine (clocks_calls w1 A c l th HR1.out hc hl hth HT.out).mono ?_
    rintro e w2 ⟨g0, E, rfl, hE, hCK, hg0, hb2⟩
    have HE := Aside0.mk hE
    have HBC := Aside0.mk (before_calls w2 A c l g0 th (rowsF l th E l.length) i' j' (Kd.C_below HR1.out hb2) hl (rowsF_len l th E l.length) hCK hi2 hj2 hth HT.out)
    rw [befR_rows hi2 hj2] at HBC
    have HB2 := Aside0.mk (below_then HB1.out HB1.out.size hb2)
    clear hE hCK hg0 hb2 HR1
    go_wp2_with fail
    refine HBC.out.mono ?_
    rintro e w3 ⟨rfl, hb3⟩
    have HB3 := Aside0.mk (below_then HB2.out HB2.out.size hb3)
    clear hb3 HBC
    go_wp2
    exact bodyPost_ret (v := .tuple #[.bool (bef l th E i' j'), .int .i64 0]) (by simp [results, Try.f19, go_sem]) rfl ⟨bef l th E i' j', by rw [HQ.out], fun h => absurd HQ.out h, fun _ => ⟨E, HE.out, rfl⟩, HB3.out⟩
  · have HQ := Aside0.mk hq
    have HP := Aside0.mk (pair_calls w A c l T i j HR.out hc)
    obtain ⟨q, hqq⟩ : ∃ q, q = pairF l T i j := ⟨_, rfl⟩
    have HQQ := Aside0.mk hqq
    rw [← hqq] at HP hq ⊢
    have d1 : (q != 0) = true := bne_iff_ne.2 hq
    have d2 : (q == 0) = false := beq_eq_false_iff_ne.2 hq
    clear hqq hq
    go_enter Try.func19, Try.ntmps19
    go_wp2_with fail
    refine HP.out.mono ?_
    rintro e w1 ⟨rfl, hb1⟩
    have HB1 := Aside0.mk hb1
    clear hb1 HP
    go_wp2
    exact bodyPost_ret (v := .tuple #[.bool false, .int .i64 q]) (by simp [results, Try.f19, go_sem]) rfl ⟨false, rfl, fun _ => rfl, fun h => absurd (HQQ.out.symm.trans h) HQ.out, HB1.out⟩
set_option maxHeartbeats 8000000 in
set_option maxRecDepth 100000 in
theorem Of_calls (w : World) (A : Option Addr) (c : Nat) (l : List CE) (T : Int) (hr : Kd.C kC w A l.length l) (hc : l.length ≤ c) :
    Calls Try.prog 20 #[.slice A l.length c, .int .i64 T] w fun e w' => ∃ v, e = .returned (.tuple #[v, .int .i64 (chkF l T)]) ∧ (chkF l T = 0 → ∃ g0 E, v = .slice (some ⟨g0, 0, none⟩) l.length l.length ∧ IsE l E ∧ CK w' g0 T.toNat (rowsF l T.toNat E l.length)) ∧ Below w.heap.size w w' := by
  have HR := Aside0.mk hr
  clear hr
  by_cases hq : chkF l T = 0
  · obtain ⟨hl, th, hT, hth, ht⟩ := chk_ok hq
    subst hT
    have HQ := Aside0.mk hq
    have HP := Aside0.mk (check_calls w A c l (th : Int) HR.out hc)
    rw [HQ.out] at HP
    have HT := Aside0.mk ht
    clear hq ht
    go_enter Try.func20, Try.ntmps20
    go_wp2_with fail
    refine HP.out.mono ?_
    rintro e w1 ⟨rfl, hb1⟩
    have HB1 := Aside0.mk hb1
    have HR1 := Aside0.mk (Kd.C_below HR.out hb1)
    clear hb1 HP
    go_wp2_with fail
    refine (clocks_calls w1 A c l th HR1.out hc hl hth HT.out).mono ?_
    rintro e w2 ⟨g0, E, rfl, hE, hCK, hg0, hb2⟩
    have HE := Aside0.mk hE
    have HCK := Aside0.mk hCK
    have HB2 := Aside0.mk (below_then HB1.out HB1.out.size hb2)
    clear hE hCK hg0 hb2 HR1
    go_wp2
    exact bodyPost_ret (v := .tuple #[.slice (some ⟨g0, 0, none⟩) l.length l.length, .int .i64 0]) (by simp [results, Try.f20, go_sem]) rfl ⟨_, by rw [HQ.out], fun _ => ⟨g0, E, rfl, HE.out, HCK.out⟩, HB2.out⟩
  · have HQ := Aside0.mk hq
    have HP := Aside0.mk (check_calls w A c l T HR.out hc)
    obtain ⟨q, hqq⟩ : ∃ q, q = chkF l T := ⟨_, rfl⟩
    have HQQ := Aside0.mk hqq
    rw [← hqq] at HP hq ⊢
    have d1 : (q != 0) = true := bne_iff_ne.2 hq
    have d2 : (q == 0) = false := beq_eq_false_iff_ne.2 hq
    clear hqq hq
    go_enter Try.func20, Try.ntmps20
    go_wp2_with fail
    refine HP.out.mono ?_
    rintro e w1 ⟨rfl, hb1⟩
    have HB1 := Aside0.mk hb1
    clear hb1 HP
    go_wp2
    exact bodyPost_ret (v := .tuple #[.slice none 0 0, .int .i64 q]) (by simp [results, Try.f20, go_sem]) rfl ⟨_, rfl, fun h => absurd (HQQ.out.symm.trans h) HQ.out, HB1.out⟩
set_option maxHeartbeats 8000000 in
set_option maxRecDepth 100000 in
theorem Edges_calls (w : World) (A : Option Addr) (c : Nat) (l : List CE) (T : Int) (hr : Kd.C kC w A l.length l) (hc : l.length ≤ c) :
    Calls Try.prog 22 #[.slice A l.length c, .int .i64 T] w fun e w' => ∃ v, e = .returned (.tuple #[v, .int .i64 (chkF l T)]) ∧ (chkF l T = 0 → ∃ E, IsE l E ∧ Kd.R k32 32 w' w.heap.size (fun _ => True) v E) ∧ (chkF l T ≠ 0 → v = .slice none 0 0) ∧ Below w.heap.size w w' := by
  have HR := Aside0.mk hr
  clear hr
  by_cases hq : chkF l T = 0
  · obtain ⟨hl, th, hT, hth, ht⟩ := chk_ok hq
    subst hT
    have HQ := Aside0.mk hq
    have HP := Aside0.mk (check_calls w A c l (th : Int) HR.out hc)
    rw [HQ.out] at HP
    clear hq ht
    go_enter Try.func22, Try.ntmps22
    go_wp2_with fail
    refine HP.out.mono ?_
    rintro e w1 ⟨rfl, hb1⟩
    have HB1 := Aside0.mk hb1
    have HR1 := Aside0.mk (Kd.C_below HR.out hb1)
    clear hb1 HP
    go_wp2_with fail
    refine (edges_calls w1 A c l HR1.out hc hl).mono ?_
    rintro e w2 ⟨v, E, rfl, hE, hRE, hb2⟩
    have HE := Aside0.mk hE
    have HRE := Aside0.mk (Kd.R_lower hRE HB1.out.size)
    have HB2 := Aside0.mk (below_then HB1.out HB1.out.size hb2)
    clear hE hRE hb2 HR1
    go_wp2
    exact bodyPost_ret (v := .tuple #[v, .int .i64 0]) (by simp [results, Try.f22, go_sem]) rfl ⟨v, by rw [HQ.out], fun _ => ⟨E, HE.out, HRE.out⟩, fun h => absurd HQ.out h, HB2.out⟩
  · have HQ := Aside0.mk hq
    have HP := Aside0.mk (check_calls w A c l T HR.out hc)
    obtain ⟨q, hqq⟩ : ∃ q, q = chkF l T := ⟨_, rfl⟩
    have HQQ := Aside0.mk hqq
    rw [← hqq] at HP hq ⊢
    have d1 : (q != 0) = true := bne_iff_ne.2 hq
    have d2 : (q == 0) = false := beq_eq_false_iff_ne.2 hq
    clear hqq hq
    go_enter Try.func22, Try.ntmps22
    go_wp2_with fail
    refine HP.out.mono ?_
    rintro e w1 ⟨rfl, hb1⟩
    have HB1 := Aside0.mk hb1
    clear hb1 HP
    go_wp2
    exact bodyPost_ret (v := .tuple #[.slice none 0 0, .int .i64 q]) (by simp [results, Try.f22, go_sem]) rfl ⟨_, rfl, fun h => absurd (HQQ.out.symm.trans h) HQ.out, fun _ => rfl, HB1.out⟩
set_option maxHeartbeats 8000000 in
set_option maxRecDepth 100000 in
theorem Apart_calls (w : World) (A : Option Addr) (c : Nat) (l : List CE) (T i j : Int) (hr : Kd.C kC w A l.length l) (hc : l.length ≤ c) :
    Calls Try.prog 21 #[.slice A l.length c, .int .i64 T, .int .i64 i, .int .i64 j] w fun e w' => ∃ b, e = .returned (.tuple #[.bool b, .int .i64 (pairF l T i j)]) ∧ (pairF l T i j = 0 → ∃ E, IsE l E ∧ b = (decide (i.toNat ≠ j.toNat) && !bef l T.toNat E i.toNat j.toNat && !bef l T.toNat E j.toNat i.toNat)) ∧ Below w.heap.size w w' := by
  have HR := Aside0.mk hr
  clear hr
  by_cases hq : pairF l T i j = 0
  · obtain ⟨hck, hi0, hi1, hj0, hj1⟩ := pair_ok hq
    obtain ⟨hl, th, hT, hth, ht⟩ := chk_ok hck
    obtain ⟨i', hi'⟩ : ∃ i' : Nat, i = (i' : Int) := ⟨i.toNat, by omega⟩
    obtain ⟨j', hj'⟩ : ∃ j' : Nat, j = (j' : Int) := ⟨j.toNat, by omega⟩
    subst hT hi' hj'
    have HQ := Aside0.mk hq
    have HP := Aside0.mk (pair_calls w A c l (th : Int) (i' : Int) (j' : Int) HR.out hc)
    rw [HQ.out] at HP
    have HT := Aside0.mk ht
    have hi2 : i' < l.length := by omega
    have hj2 : j' < l.length := by omega
    clear hq hck ht hi0 hi1 hj0 hj1
    go_enter Try.func21, Try.ntmps21
    go_wp2_with fail
    refine HP.out.mono ?_
    rintro e w1 ⟨rfl, hb1⟩
    have HB1 := Aside0.mk hb1
    have HR1 := Aside0.mk (Kd.C_below HR.out hb1)
    clear hb1 HP
    go_wp2_with fail
    refine (clocks_calls w1 A c l th HR1.out hc hl hth HT.out).mono ?_
    rintro e w2 ⟨g0, E, rfl, hE, hCK, hg0, hb2⟩
    have HE := Aside0.mk hE
    have HCK := Aside0.mk hCK
    have HR2 := Aside0.mk (Kd.C_below HR1.out hb2)
    have HB2 := Aside0.mk (below_then HB1.out HB1.out.size hb2)
    clear hE hCK hg0 hb2 HR1
    by_cases hij : i' = j'
    · have d0 : ((i' : Int) != (j' : Int)) = false := by rw [hij]; simp
      have HX := Aside0.mk (show (decide (i' ≠ j') && !bef l th E i' j' && !bef l th E j' i') = false by rw [decide_eq_false (fun h => h hij)]; rfl)
      clear hij
      go_wp2
      exact bodyPost_ret (v := .tuple #[.bool false, .int .i64 0]) (by simp [results, Try.f21, go_sem]) rfl ⟨false, by rw [HQ.out], fun _ => ⟨E, HE.out, HX.out.symm⟩, HB2.out⟩
    · have d0 : ((i' : Int) != (j' : Int)) = true := bne_iff_ne.2 (by omega)
      obtain ⟨b1, hb1⟩ : ∃ b1, b1 = bef l th E i' j' := ⟨_, rfl⟩
      obtain ⟨b2, hb2⟩ : ∃ b2, b2 = bef l th E j' i' := ⟨_, rfl⟩
      have HX := Aside0.mk (show (decide (i' ≠ j') && !bef l th E i' j' && !bef l th E j' i') = (!b1 && !b2) by rw [decide_eq_true (show i' ≠ j' from hij), Bool.true_and, hb1, hb2])
      have HE1 := Aside0.mk hb1
      have HE2 := Aside0.mk hb2
      clear hij hb1 hb2
      have HBC := Aside0.mk (before_calls w2 A c l g0 th (rowsF l th E l.length) i' j' HR2.out hl (rowsF_len l th E l.length) HCK.out hi2 hj2 hth HT.out)
      rw [befR_rows hi2 hj2] at HBC
      rw [← HE1.out] at HBC
      go_wp2_with fail
      refine HBC.out.mono ?_
      rintro e w3 ⟨rfl, hb3⟩
      have HBD := Aside0.mk (before_calls w3 A c l g0 th (rowsF l th E l.length) j' i' (Kd.C_below HR2.out hb3) hl (rowsF_len l th E l.length) (HCK.out.below hb3) hj2 hi2 hth HT.out)
      rw [befR_rows hj2 hi2] at HBD
      have HB3 := Aside0.mk (below_then HB2.out HB2.out.size hb3)
      clear hb3 HBC
      rw [← HE2.out] at HBD
      cases b1 with
      | true =>
        go_wp2
        exact bodyPost_ret (v := .tuple #[.bool false, .int .i64 0]) (by simp [results, Try.f21, go_sem]) rfl ⟨false, by rw [HQ.out], fun _ => ⟨E, HE.out, HX.out.symm⟩, HB3.out⟩
      | false =>
        go_wp2_with fail
        refine HBD.out.mono ?_
        rintro e w4 ⟨rfl, hb4⟩
        have HB4 := Aside0.mk (below_then HB3.out HB3.out.size hb4)
        clear hb4 HBD
        go_wp2
        exact bodyPost_ret (v := .tuple #[.bool (!b2), .int .i64 0]) (by simp [results, Try.f21, go_sem]) rfl ⟨!b2, by rw [HQ.out], fun _ => ⟨E, HE.out, HX.out.symm⟩, HB4.out⟩
  · have HQ := Aside0.mk hq
    have HP := Aside0.mk (pair_calls w A c l T i j HR.out hc)
    obtain ⟨q, hqq⟩ : ∃ q, q = pairF l T i j := ⟨_, rfl⟩
    have HQQ := Aside0.mk hqq
    rw [← hqq] at HP hq ⊢
    have d1 : (q != 0) = true := bne_iff_ne.2 hq
    have d2 : (q == 0) = false := beq_eq_false_iff_ne.2 hq
    clear hqq hq
    go_enter Try.func21, Try.ntmps21
    go_wp2_with fail
    refine HP.out.mono ?_
    rintro e w1 ⟨rfl, hb1⟩
    have HB1 := Aside0.mk hb1
    clear hb1 HP
    go_wp2
    exact bodyPost_ret (v := .tuple #[.bool false, .int .i64 q]) (by simp [results, Try.f21, go_sem]) rfl ⟨false, rfl, fun h => absurd (HQQ.out.symm.trans h) HQ.out, HB1.out⟩
end Go.Proofs.Ytginlhengebgaaa.Ck
