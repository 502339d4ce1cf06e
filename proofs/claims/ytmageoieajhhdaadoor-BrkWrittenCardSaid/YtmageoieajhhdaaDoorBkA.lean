/- Conditions: sign, walked. -/
import Derived.Test.YtmageoieajhhdaaDoorBkW
import Derived.Test.YtmageoieajhhdaaDoorBkR
import Derived.Test.YtmageoieajhhdaaDoorBkI
import Derived.Test.YtmageoieajhhdaaDoorShelf
import Derived.Test.YtmageoieajhhdaaDoorRegionDirty
namespace Go.Proofs.YtmageoieajhhdaaDoor.Bk
open Go Go.RowKit Go.Proofs.YtmageoieajhhdaaDoorW.PrintWords Go.Proofs.YtmageoieajhhdaaDoorW.PrintLast Go.Proofs.YtmageoieajhhdaaDoorW.PrintMore Go.Proofs.YtmageoieajhhdaaDoor.PBrkWritten Go.Proofs.YtmageoieajhhdaaDoor.RegionVal
open Go.Lib hiding intOf
set_option linter.unusedVariables false
set_option linter.unusedSimpArgs false
abbrev bs (s : Bs) : ByteArray := ⟨s.toArray⟩
theorem trim_eq (s : Bs) : (⟨(Lib.trimLeftB (bs s).data.toList 32).toArray⟩ : ByteArray) = bs (trimL s) := rfl
theorem idx_mem (set : Bs) (c : UInt8) : (Lib.indexByte set c < 0) ↔ c ∉ set := by
  induction set with
  | nil => simp [Lib.indexByte]
  | cons a r ih =>
    unfold Lib.indexByte
    by_cases h : a = c
    · subst h; simp
    · have h1 : (a == c) = false := beq_eq_false_iff_ne.2 h
      rw [h1]
      simp only [Bool.false_eq_true, if_false, List.mem_cons, not_or]
      have hge := Lib.indexByte_ge r c
      by_cases h2 : Lib.indexByte r c = -1
      · rw [if_pos (by rw [h2]; rfl)]
        exact ⟨fun _ => ⟨fun e => h e.symm, ih.1 (by omega)⟩, fun _ => by decide⟩
      · rw [if_neg (by simpa using h2)]
        constructor
        · intro h3; omega
        · rintro ⟨_, h4⟩
          have := ih.2 h4
          omega
theorem idx_calls (set : Bs) (c : UInt8) (w : World) : Calls Tryd.prog 52 #[.string (bs set), .int .u8 (c.toNat : Int)] w fun e w' => e = .returned (.int .i64 (Lib.indexByte set c)) ∧ w' = w := by
  have h := Tryd.strings_IndexByte (bs set) (c.toNat : Int) w
  rw [Int.toNat_natCast, show c.toNat.toUInt8 = c from UInt8.ofNat_toNat] at h
  exact h
theorem bs_extract (s : Bs) (a b : Nat) : (bs s).extract a b = bs ((s.drop a).take (b - a)) := by
  apply ByteArray.ext
  apply Array.ext'
  simp [ByteArray.data_extract]
theorem bs_size (s : Bs) : (bs s).size = s.length := by simp [ByteArray.size]
theorem idx0 (c : UInt8) (r : Bs) (h : 0 < (bs (c :: r)).size) : (bs (c :: r))[0] = c := rfl
set_option maxHeartbeats 4000000 in
set_option maxRecDepth 100000 in
theorem sign_calls (g : Nat) (s set : Bs) (b : Bool) (w0 w : World) (hI : IsS74 w0 w g (bs s) b) (hB : Below w0.heap.size w0 w) :
    Calls Tryd.prog 42 #[.pointer (some ⟨g, 0, none⟩), .string (bs set)] w fun e w' => e = .returned (.int .u8 ((signF set s b).1.toNat : Int)) ∧ IsS74 w0 w' g (bs (signF set s b).2) b ∧ Below w0.heap.size w0 w' ∧ KeepBut w w' g none := by
  obtain ⟨hg, hge⟩ := hI
  have HB := Aside0.mk hB
  have HGE := Aside0.mk hge
  have hc0 := cellS74_0 hg
  have hc1 := cellS74_1 hg
  have hf0 := blk_frozen hg 0
  have hf1 := blk_frozen hg 1
  have HG := Aside0.mk hg
  clear hg hge hB
  have arm0 : ∀ (u : ByteArray), IsS74 w0 (w.setCell ⟨g, 0, none⟩ (.string u)) g u b ∧ Below w0.heap.size w0 (w.setCell ⟨g, 0, none⟩ (.string u)) ∧ KeepBut w (w.setCell ⟨g, 0, none⟩ (.string u)) g none := fun u =>
    ⟨IsS74.set_0 ⟨HG.out, HGE.out⟩ u, HB.out.setCell (p := ⟨g, 0, none⟩) HGE.out _, (KeepBut.refl w g none).set_ 0 _⟩
  have HA := Aside0.mk arm0
  clear arm0
  rcases h : trimL s with _ | ⟨c, r⟩
  · have hS : signF set s b = (0, []) := by unfold signF; rw [h]
    rw [hS]
    cases b with
    | true =>
      go_enter Tryd.func42, Tryd.ntmps42
      go_wp2_with (first | (go_at_call 54; refine (Tryd.strings_TrimLeft_one (bs s) 32 (by decide) _).mono ?_; rintro e w' ⟨rfl, rfl⟩; rw [trim_eq, h]) | fail)
      exact bodyPost_ret (v := .int .u8 0) (by simp [results, Tryd.f42, go_sem]) rfl ⟨rfl, HA.out _⟩
    | false =>
      go_enter Tryd.func42, Tryd.ntmps42
      go_wp2_with (first | (go_at_call 54; refine (Tryd.strings_TrimLeft_one (bs s) 32 (by decide) _).mono ?_; rintro e w' ⟨rfl, rfl⟩; rw [trim_eq, h]) | fail)
      exact bodyPost_ret (v := .int .u8 0) (by simp [results, Tryd.f42, go_sem]) rfl ⟨rfl, HA.out _⟩
  · cases b with
    | true =>
      have hS : signF set s true = (0, c :: r) := by unfold signF; rw [h]; rfl
      rw [hS]
      go_enter Tryd.func42, Tryd.ntmps42
      go_wp2_with (first | (go_at_call 54; refine (Tryd.strings_TrimLeft_one (bs s) 32 (by decide) _).mono ?_; rintro e w' ⟨rfl, rfl⟩; rw [trim_eq, h]) | fail)
      exact bodyPost_ret (v := .int .u8 0) (by simp [results, Tryd.f42, go_sem]) rfl ⟨rfl, HA.out _⟩
    | false =>
      by_cases hm : c ∈ set
      · have hS : signF set s false = (c, r) := sign_eq_hit h hm
        rw [hS]
        have d1 : ¬ (Lib.indexByte set c < 0) := fun h => (idx_mem set c).1 h hm
        have d2 : decide (Lib.indexByte set c < 0) = false := decide_eq_false d1
        clear d1
        go_enter Tryd.func42, Tryd.ntmps42
        go_wp2_with (first | (go_at_call 54; refine (Tryd.strings_TrimLeft_one (bs s) 32 (by decide) _).mono ?_; rintro e w' ⟨rfl, rfl⟩; rw [trim_eq, h]) | (go_at_call 52; refine (idx_calls set c _).mono ?_; rintro e w' ⟨rfl, rfl⟩) | fail)
        have he : (bs (c :: r)).extract 1 (r.length + 1) = bs r := by
          rw [bs_extract]
          congr 2
          simp
        rw [he]
        obtain ⟨a1, a2, a3⟩ := HA.out (bs (c :: r))
        exact bodyPost_ret (v := .int .u8 (c.toNat : Int)) (by simp [results, Tryd.f42, go_sem]; rfl) rfl ⟨rfl, a1.set_0 _, a2.setCell (p := ⟨g, 0, none⟩) HGE.out _, a3.set_ 0 _⟩
      · have hS : signF set s false = (0, c :: r) := by
          have := sign_eq_miss (set := set) (s := s) (fun c' r' e => by rw [h] at e; cases e; exact hm)
          rwa [h] at this
        rw [hS]
        have d2 : decide (Lib.indexByte set c < 0) = true := decide_eq_true ((idx_mem set c).2 hm)
        go_enter Tryd.func42, Tryd.ntmps42
        go_wp2_with (first | (go_at_call 54; refine (Tryd.strings_TrimLeft_one (bs s) 32 (by decide) _).mono ?_; rintro e w' ⟨rfl, rfl⟩; rw [trim_eq, h]) | (go_at_call 52; refine (idx_calls set c _).mono ?_; rintro e w' ⟨rfl, rfl⟩) | fail)
        exact bodyPost_ret (v := .int .u8 0) (by simp [results, Tryd.f42, go_sem]) rfl ⟨rfl, HA.out _⟩
end Go.Proofs.YtmageoieajhhdaaDoor.Bk
