/- asker.pass and small.Min: their walks; what they compute is passF and minF. -/
import Derived.Test.YtaeamehngbfneaaSmallB
import Derived.Test.YtaeamehngbfneaaWMore
namespace Go.Proofs.Ytaeamehngbfneaa.Sl
open Go Go.RowKit Go.Lib Go.Proofs.YtaeamehngbfneaaW.PrintWords Go.Proofs.YtaeamehngbfneaaW.PrintLast Go.Proofs.YtaeamehngbfneaaW.PrintMore
attribute [local go_sem] max2_int min2_int max_two min_two
set_option linter.unusedVariables false
set_option linter.unusedSimpArgs false

/-- a pass: stretches of so many are left out, from 'to' downward, where it still holds; how often it asked -/
def passF (p : List Int → Bool) (sz : Nat) : Nat → Nat → List Int → List Int × Nat
  | 0, _, l => (l, 0)
  | n + 1, q, l => if q = 0 then (l, 0) else
    let r := passF p sz n (q - sz) (if p (l.take (q - sz) ++ l.drop q) = true then l.take (q - sz) ++ l.drop q else l)
    (r.1, r.2 + 1)

theorem passF_more (p : List Int → Bool) {sz : Nat} (hs : 0 < sz) : ∀ (n : Nat) (q : Nat) (l : List Int), q ≤ n → passF p sz n q l = passF p sz q q l
  | 0, q, l, h => by
    obtain rfl : q = 0 := by omega
    rfl
  | n + 1, q, l, h => by
    rcases Nat.eq_zero_or_pos q with rfl | hp
    · simp [passF]
    · obtain ⟨k, rfl⟩ : ∃ k, q = k + 1 := ⟨q - 1, by omega⟩
      simp only [passF]
      rw [if_neg (show ¬ (k + 1 = 0) by omega), if_neg (show ¬ (k + 1 = 0) by omega), passF_more p hs n (k + 1 - sz) _ (by omega), passF_more p hs k (k + 1 - sz) _ (by omega)]

theorem passF_step (p : List Int → Bool) {sz q : Nat} (hs : 0 < sz) (ht : 0 < q) (l : List Int) :
    passF p sz q q l = ((passF p sz (q - sz) (q - sz) (if p (l.take (q - sz) ++ l.drop q) = true then l.take (q - sz) ++ l.drop q else l)).1, (passF p sz (q - sz) (q - sz) (if p (l.take (q - sz) ++ l.drop q) = true then l.take (q - sz) ++ l.drop q else l)).2 + 1) := by
  obtain ⟨k, rfl⟩ : ∃ k, q = k + 1 := ⟨q - 1, by omega⟩
  simp only [passF]
  rw [if_neg (show ¬ (k + 1 = 0) by omega), passF_more p hs k _ _ (by omega)]

/-- an owned row of later make, read whatever becomes of block g -/
theorem rd_of_own {w : World} {B g : Nat} {v : Value} {xs : List Int} (h : w.ownsRow B 3 1 v xs.length (nums .i64 xs)) (hg : g < B) : ∃ A c, v = .slice A xs.length c ∧ xs.length ≤ c ∧ Rd w g A xs := by
  obtain ⟨A, c, rfl, hl, _⟩ := own_rd h
  refine ⟨A, c, rfl, hl, fun w' hg' => ?_⟩
  have hne : (Value.slice A xs.length c).ownBlock = none ∨ (Value.slice A xs.length c).ownBlock ≠ some g := by
    cases hb : (Value.slice A xs.length c).ownBlock with
    | none => exact .inl rfl
    | some k =>
      have := own_base h k hb
      exact .inr (fun e => by cases e; omega)
  exact own_reads' (own_other h hg' hne)

def PassPost (w : World) (g : Nat) (fv : Value) (m : Int) (r : List Int × Nat) (e : Ending) (w' : World) : Prop :=
  ∃ A c, e = .returned (.slice A r.1.length c) ∧ r.1.length ≤ c ∧ Rd w' g A r.1 ∧ Asker w' g fv (m + r.2) ∧ w.grownBy w' (some g)

set_option maxHeartbeats 8000000 in
set_option maxRecDepth 100000 in
theorem pass_calls (f : FuncId) (cap : Array Value) (w0 : World) (p : List Int → Bool) (hf : Holds f cap w0 p) (w : World) (g : Nat) (m : Int) (A : Option Addr) (c : Nat) (xs : List Int) (size : Int)
    (h0 : Below w0.heap.size w0 w) (hg0 : w0.heap.size ≤ g) (hg : Asker w g (.func (.func f) #[] cap) m) (hm0 : 0 ≤ m) (hm : m ≤ 900000) (hr : Rd w g A xs) (hc : xs.length ≤ c) (hn : xs.length ≤ 200) (hs : 1 ≤ size) (hs2 : size ≤ 200) :
    Calls Try.prog 24 #[.pointer (some ⟨g, 0, none⟩), .slice A xs.length c, .int .i64 size] w (PassPost w g (.func (.func f) #[] cap) m (passF p size.toNat xs.length xs.length xs)) := by
  have HR := Aside0.mk hr
  have HG := Aside0.mk hg
  have H0 := Aside0.mk h0
  have HF := Aside0.mk hf
  clear hr hg h0 hf
  go_enter Try.func24, Try.ntmps24
  go_wp2
  go_loopw [1, 7] (fun l q wr => ∃ (ys : List Int) (A1 : Option Addr) (c1 : Nat) (t : Int) (k : Nat), l = .slice A1 ys.length c1 ∧ ys.length ≤ c1 ∧ ys.length ≤ xs.length ∧ q = .int .i64 t ∧ -200 ≤ t ∧ t ≤ ys.length ∧ (k : Int) + t ≤ xs.length ∧ k ≤ xs.length ∧
      Aside0 (Rd wr g A1 ys) ∧ Aside0 (Asker wr g (.func (.func f) #[] cap) (m + k)) ∧ Aside0 (w.grownBy wr (some g)) ∧ Aside0 (Below w0.heap.size w0 wr) ∧
      Aside0 (passF p size.toNat xs.length xs.length xs = ((passF p size.toNat t.toNat t.toNat ys).1, (passF p size.toNat t.toNat t.toNat ys).2 + k))) (fun _ q _ => (intOf q).toNat)
  case atStart => exact ⟨xs, A, c, xs.length, 0, rfl, hc, Nat.le_refl _, rfl, by omega, by omega, by omega, by omega, HR, ⟨by simpa using HG.out⟩, ⟨grown_refl _ _⟩, H0, ⟨by simp⟩⟩
  case round =>
    obtain ⟨ys, A1, c1, t, k, rfl, hc1, hn1, rfl, ht0, ht1, hkt, hk, HR1, HA1, HG1, HB1, HP⟩ := hrel
    by_cases ht : 0 < t
    · -- the stretch
      obtain ⟨n1, hn1⟩ : ∃ n1 : Nat, n1 = t.toNat - size.toNat := ⟨_, rfl⟩
      obtain ⟨zs, hzs⟩ : ∃ zs, zs = ys.take n1 ++ ys.drop t.toNat := ⟨_, rfl⟩
      have hlen : zs.length ≤ ys.length := by rw [hzs, List.length_append, List.length_take, List.length_drop]; omega
      have hlen2 : n1 ≤ zs.length := by rw [hzs, List.length_append, List.length_take]; omega
      have hstep := passF_step p (sz := size.toNat) (q := t.toNat) (by omega) (by omega) ys
      rw [← hn1, ← hzs] at hstep
      have HS := Aside0.mk hstep
      have HN1 := Aside0.mk hn1
      have HZS := Aside0.mk hzs
      clear hstep hn1 hzs
      rcases Int.lt_or_le 0 (t - size) with hsz | hsz
      all_goals
        go_wp2_with fail
        refine (without_calls _ A1 c1 ys _ t HR1.out.now hc1 (by omega) (by omega) (by omega) ht1).mono ?_
        rintro e w1 ⟨v, rfl, hown, hbel⟩
        first
          | rw [show ys.take (t - size).toNat ++ ys.drop t.toNat = zs from by rw [HZS.out, show (t - size).toNat = n1 by have := HN1.out; omega]] at hown
          | rw [show ys.take (0 : Int).toNat ++ ys.drop t.toNat = zs from by rw [HZS.out, show (0 : Int).toNat = n1 by have := HN1.out; omega]] at hown
        obtain ⟨A2, c2, rfl, hc2, hr2⟩ := rd_of_own (g := g) hown (by have := blk_lt HA1.out; exact this)
        have HG2 := Aside0.mk (grown_trans HG1.out (grown_of_below hbel _))
        have HB2 := Aside0.mk (below_then HB1.out HB1.out.size hbel)
        have HA2 : Aside0 (Asker w1 g (.func (.func f) #[] cap) (m + k)) := ⟨(hbel.block g (blk_lt HA1.out)).trans HA1.out⟩
        have HR2 := Aside0.mk hr2
        have HR1' := Aside0.mk (HR1.out.on (grown_of_below hbel (some g)))
        clear hown hbel hr2
        go_wp2_with fail
        refine (ask_calls f cap w0 p HF.out _ g (m + k) A2 c2 zs HB2.out hg0 HA2.out (by omega) (by omega) HR2.out hc2 (by omega)).mono ?_
        rintro e w2 ⟨rfl, ha3, hg3⟩
        have HA3 := Aside0.mk ha3
        have HG3 := Aside0.mk (grown_trans HG2.out hg3)
        have HB3 := Aside0.mk (HB2.out.grown hg3 HB2.out.size (fun b hb => by cases hb; exact hg0))
        have HR3 := Aside0.mk (HR2.out.on hg3)
        have HR3' := Aside0.mk (HR1'.out.on hg3)
        clear ha3 hg3
        have ht3 : (t - size).toNat = n1 := by have := HN1.out; omega
        have HT3 := Aside0.mk ht3
        clear ht3
        cases hp : p zs with
        | true =>
          have HPZ := Aside0.mk hp
          clear hp
          go_wp2
          go_roundw
          case rel =>
            refine ⟨zs, A2, c2, t - size, k + 1, rfl, hc2, by omega, rfl, by omega, by have := HN1.out; omega, by omega, by omega, HR3, ⟨by have := HA3.out; rwa [show m + (k : Int) + 1 = m + ((k + 1 : Nat) : Int) by omega] at this⟩, HG3, HB3, ⟨?_⟩⟩
            rw [HP.out, HS.out, HT3.out, HPZ.out, if_pos rfl]
            simp; omega
          case measure => simp [intOf]; omega
        | false =>
          have HPZ := Aside0.mk hp
          clear hp
          go_wp2
          go_roundw
          case rel =>
            refine ⟨ys, A1, c1, t - size, k + 1, rfl, hc1, by omega, rfl, by omega, by omega, by omega, by omega, HR3', ⟨by have := HA3.out; rwa [show m + (k : Int) + 1 = m + ((k + 1 : Nat) : Int) by omega] at this⟩, HG3, HB3, ⟨?_⟩⟩
            rw [HP.out, HS.out, HT3.out, HPZ.out, if_neg (by decide)]
            simp; omega
          case measure => simp [intOf]; omega
    · have h0 : t.toNat = 0 := by omega
      have HP' : Aside0 (passF p size.toNat xs.length xs.length xs = (ys, k)) := ⟨by rw [HP.out, h0]; simp [passF]⟩
      clear h0
      go_wp2
      go_ret
      exact ⟨A1, c1, by rw [HP'.out]; rfl, by rw [HP'.out]; exact hc1, by rw [HP'.out]; exact HR1.out, by rw [HP'.out]; exact HA1.out, HG1.out⟩

/-- stretches of sz, of half as many, .. -/
def halvesF (p : List Int → Bool) : Nat → Nat → List Int → List Int × Nat
  | 0, _, l => (l, 0)
  | n + 1, sz, l => if sz ≤ 1 then (l, 0) else
    let a := passF p sz l.length l.length l
    let r := halvesF p n (sz / 2) a.1
    (r.1, a.2 + r.2)

/-- one by one, until a whole pass leaves nothing out -/
def onesF (p : List Int → Bool) : Nat → List Int → List Int × Nat
  | 0, l => (l, 0)
  | n + 1, l =>
    let a := passF p 1 l.length l.length l
    if a.1.length = l.length then a else
      let r := onesF p n a.1
      (r.1, a.2 + r.2)

/-- what Min tells of a list that holds -/
def minF (p : List Int → Bool) (l : List Int) : List Int × Nat :=
  let a := halvesF p l.length (l.length / 2) l
  let b := onesF p (l.length + 1) a.1
  (b.1, 1 + a.2 + b.2)

theorem passF_length (p : List Int → Bool) (sz : Nat) : ∀ (n q : Nat) (l : List Int), (passF p sz n q l).1.length ≤ l.length ∧ (passF p sz n q l).2 ≤ n
  | 0, q, l => ⟨Nat.le_refl _, Nat.le_refl _⟩
  | n + 1, q, l => by
    simp only [passF]
    by_cases hq : q = 0
    · rw [if_pos hq]; exact ⟨Nat.le_refl _, Nat.zero_le _⟩
    · rw [if_neg hq]
      have ih := passF_length p sz n (q - sz) (if p (l.take (q - sz) ++ l.drop q) = true then l.take (q - sz) ++ l.drop q else l)
      refine ⟨Nat.le_trans ih.1 ?_, by simp only; omega⟩
      split
      · rw [List.length_append, List.length_take, List.length_drop]; omega
      · exact Nat.le_refl _

def MinPost (w : World) (r : List Int × Nat) (e : Ending) (w' : World) : Prop :=
  ∃ A c, e = .returned (.tuple #[.slice A r.1.length c, .int .i64 r.2, .int .i64 0]) ∧ r.1.length ≤ c ∧ ReadsInt w' .i64 A r.1.length r.1 ∧ Below w.heap.size w w'

theorem halvesF_length (p : List Int → Bool) : ∀ (n sz : Nat) (l : List Int), (halvesF p n sz l).1.length ≤ l.length ∧ (halvesF p n sz l).2 ≤ n * l.length
  | 0, sz, l => ⟨Nat.le_refl _, by simp [halvesF]⟩
  | n + 1, sz, l => by
    simp only [halvesF]
    by_cases h : sz ≤ 1
    · rw [if_pos h]; exact ⟨Nat.le_refl _, Nat.zero_le _⟩
    · rw [if_neg h]
      have a := passF_length p sz l.length l.length l
      have ih := halvesF_length p n (sz / 2) (passF p sz l.length l.length l).1
      refine ⟨Nat.le_trans ih.1 a.1, ?_⟩
      have h1 : n * (passF p sz l.length l.length l).1.length ≤ n * l.length := Nat.mul_le_mul_left _ a.1
      have h2 : (n + 1) * l.length = n * l.length + l.length := by rw [Nat.add_mul, Nat.one_mul]
      simp only
      omega

theorem halvesF_more (p : List Int → Bool) : ∀ (n sz : Nat) (l : List Int), sz ≤ n → ∀ m, sz ≤ m → halvesF p n sz l = halvesF p m sz l
  | 0, sz, l, h, m, hm => by
    obtain rfl : sz = 0 := by omega
    cases m <;> simp [halvesF]
  | n + 1, sz, l, h, 0, hm => by
    obtain rfl : sz = 0 := by omega
    simp [halvesF]
  | n + 1, sz, l, h, m + 1, hm => by
    simp only [halvesF]
    by_cases h1 : sz ≤ 1
    · rw [if_pos h1, if_pos h1]
    · rw [if_neg h1, if_neg h1, halvesF_more p n (sz / 2) _ (by omega) m (by omega)]

theorem onesF_length (p : List Int → Bool) : ∀ (n : Nat) (l : List Int), (onesF p n l).1.length ≤ l.length
  | 0, l => Nat.le_refl _
  | n + 1, l => by
    simp only [onesF]
    have a := passF_length p 1 l.length l.length l
    split
    · exact a.1
    · exact Nat.le_trans (onesF_length p n _) a.1

theorem onesF_more (p : List Int → Bool) : ∀ (n : Nat) (l : List Int), l.length < n → ∀ m, l.length < m → onesF p n l = onesF p m l
  | 0, l, h, m, hm => by omega
  | n + 1, l, h, 0, hm => by omega
  | n + 1, l, h, m + 1, hm => by
    simp only [onesF]
    have a := passF_length p 1 l.length l.length l
    by_cases h1 : (passF p 1 l.length l.length l).1.length = l.length
    · rw [if_pos h1, if_pos h1]
    · rw [if_neg h1, if_neg h1, onesF_more p n _ (by omega) m (by omega)]

/-- asks stay few: of lists of at most 200 -/
theorem onesF_asks (p : List Int → Bool) : ∀ (n : Nat) (l : List Int), (onesF p n l).2 ≤ (l.length + 1) * l.length
  | 0, l => by simp [onesF]
  | n + 1, l => by
    simp only [onesF]
    have a := passF_length p 1 l.length l.length l
    by_cases h1 : (passF p 1 l.length l.length l).1.length = l.length
    · rw [if_pos h1]
      have : (l.length + 1) * l.length = l.length * l.length + l.length := by rw [Nat.add_mul, Nat.one_mul]
      omega
    · rw [if_neg h1]
      have ih := onesF_asks p n (passF p 1 l.length l.length l).1
      have h2 : ((passF p 1 l.length l.length l).1.length + 1) * (passF p 1 l.length l.length l).1.length ≤ l.length * l.length := Nat.mul_le_mul (by omega) (by omega)
      have : (l.length + 1) * l.length = l.length * l.length + l.length := by rw [Nat.add_mul, Nat.one_mul]
      simp only
      omega

end Go.Proofs.Ytaeamehngbfneaa.Sl
