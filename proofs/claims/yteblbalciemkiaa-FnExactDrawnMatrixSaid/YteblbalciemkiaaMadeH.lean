/- The contract of the maker of a matrix out of a function of two indices, at the function of Hilbert's matrix. -/
import Derived.Test.YteblbalciemkiaaMade
namespace Go.Proofs.Yteblbalciemkiaa
open Go.RowKit Opn

/-- 1 / (s + 1) -/
def hilbW (s : Nat) : Nat := (floatBits .quo .f32 1065353216 (floatOfInt .f32 ((s : Int) + 1))).getD 0
theorem hilbW_some (s : Nat) (h : s < 24) : floatBits .quo .f32 1065353216 (floatOfInt .f32 ((s : Int) + 1)) = some (hilbW s) := by
  have : (floatBits .quo .f32 1065353216 (floatOfInt .f32 ((s : Int) + 1))).isSome = true := by
    exact match s, h with
    | 0, _ => by decide +kernel
    | 1, _ => by decide +kernel
    | 2, _ => by decide +kernel
    | 3, _ => by decide +kernel
    | 4, _ => by decide +kernel
    | 5, _ => by decide +kernel
    | 6, _ => by decide +kernel
    | 7, _ => by decide +kernel
    | 8, _ => by decide +kernel
    | 9, _ => by decide +kernel
    | 10, _ => by decide +kernel
    | 11, _ => by decide +kernel
    | 12, _ => by decide +kernel
    | 13, _ => by decide +kernel
    | 14, _ => by decide +kernel
    | 15, _ => by decide +kernel
    | 16, _ => by decide +kernel
    | 17, _ => by decide +kernel
    | 18, _ => by decide +kernel
    | 19, _ => by decide +kernel
    | 20, _ => by decide +kernel
    | 21, _ => by decide +kernel
    | 22, _ => by decide +kernel
    | 23, _ => by decide +kernel
    | s + 24, h => by omega
  obtain ⟨r, hr⟩ := Option.isSome_iff_exists.1 this
  unfold hilbW
  rw [hr]; rfl
/-- the numbers of Hilbert's matrix -/
def hilbF (c : Nat) (p : Nat) : Nat := hilbW (p / c + p % c)

theorem hilb_step (s : Nat) (h : s < 24) : (∀ w : World, Flt.fB .quo .f32 1065353216 (floatOfInt .f32 ((s : Int) + 1)) w = hilbW s) ∧ Flt.fN .quo .f32 1065353216 (floatOfInt .f32 ((s : Int) + 1)) = 0 := by
  have := hilbW_some s h
  exact ⟨fun w => by rw [Flt.fB, this, Option.getD_some], by rw [Flt.fN, this, Option.isSome_some]; exact if_pos rfl⟩

theorem hilb1_any (j k : Nat) (w : World) (h : j + k < 24) : Calls Try.prog 43 #[.int .i64 j, .int .i64 k] w fun e w' => e = .returned (.float .f32 (hilbW (j + k))) ∧ w' = w := by
  obtain ⟨h1, h2⟩ := hilb_step (j + k) h
  have e1 : (((j + k : Nat) : Int) + 1) = (j : Int) + (k : Int) + 1 := by omega
  rw [e1] at h1 h2
  clear e1
  go_enter Try.func43, Try.ntmps43
  go_wp2
  go_ret
  exact ⟨rfl, rfl⟩

theorem hilbF_at (c j k : Nat) (h : k < c) : hilbF c (j * c + k) = hilbW (j + k) := by
  unfold hilbF
  rw [Nat.mul_comm, Nat.mul_add_div (by omega), Nat.div_eq_of_lt h, Nat.add_zero, Nat.mul_add_mod, Nat.mod_eq_of_lt h]

def CH (_ : Nat) : Prop := False
def StH (_ : Nat) (_ : World) : Prop := True
theorem ofH_any (c j k p : Nat) (w : World) (hp : j * c + k = p) (hk : k < c) (hj : j < 12) (hc : c ≤ 12) (_ : StH p w) : Calls Try.prog 43 #[.int .i64 j, .int .i64 k] w fun e w' => e = .returned (.float .f32 (hilbF c p)) ∧ StH (p + 1) w' ∧ Kp CH w w' :=
  (hilb1_any j k w (by omega)).mono fun e w' ⟨he, hw⟩ => ⟨by rw [he, ← hp, hilbF_at c j k hk], trivial, by rw [hw]; exact Kp.refl _ _⟩
theorem StH.but {p g : Nat} {w w' : World} (_ : StH p w) (_ : But g w w') (_ : ¬ CH g) : StH p w' := trivial
theorem StH.drewN {p n : Nat} {w : World} (_ : StH p w) : StH p (w.drewN n) := trivial

set_option maxHeartbeats 2000000 in
theorem madeH_any (r c : Nat) (w : World) (hr : r ≤ 12) (hc : c ≤ 12) (hst : StH 0 w) : Calls Try.prog 42 #[.int .i64 r, .int .i64 c, .func (.func 43) #[] #[]] w fun e w' => ∃ g, e = .returned (.agg #[.int .i64 r, .int .i64 c, .slice (some ⟨g, 0, none⟩) (r * c : Nat) (r * c : Nat)]) ∧ w.heap.size ≤ g ∧ FOwn w' g (r * c) (fillTo (hilbF c) (r * c) (r * c)) ∧ Kp CH w w' ∧ StH (r * c) w' := by
  have hrc : r * c ≤ 1048576 := Nat.le_trans (Nat.mul_le_mul hr hc) (by decide)
  obtain ⟨n, hn⟩ : ∃ n, r * c = n := ⟨_, rfl⟩
  rw [hn] at hrc ⊢
  have HN : Hid (r * c = n) := hn
  have HC : Hid ((r : Int) * (c : Int) = (n : Int)) := by show (r : Int) * (c : Int) = (n : Int); rw [← hn]; simp
  have HS0 : Hid (StH 0 w) := hst
  clear hn hst
  go_enter Try.func42, Try.ntmps42
  go_wp2_with fail
  refine (newM_any (r : Int) (c : Int) n _ HC.out hrc).mono ?_
  rintro e w1 ⟨g, rfl, hg, ho, hb⟩
  go_wp2_with fail
  have HO1 : Hid (FOwn (w1.alloc (Obj.cells #[.int .i64 r, .int .i64 c, .slice (some ⟨g, 0, none⟩) n n] 24)) g n (fillTo (hilbF c) (0 * c) n)) := by
    have := ho.below ((Below.refl _ w1).alloc (Nat.le_refl _) (Obj.cells #[.int .i64 r, .int .i64 c, .slice (some ⟨g, 0, none⟩) n n] 24)) ho.2.1
    rw [Nat.zero_mul, fillTo_zero]
    exact this
  have HB1 : Hid (BoxW (w1.alloc (Obj.cells #[.int .i64 r, .int .i64 c, .slice (some ⟨g, 0, none⟩) n n] 24)) w1.heap.size r c (.slice (some ⟨g, 0, none⟩) n n)) := BoxW.new _ _ _ _ _
  have HR1 : Hid (BoxW (w1.alloc (Obj.cells #[.int .i64 r, .int .i64 c, .slice (some ⟨g, 0, none⟩) n n] 24)) w.heap.size 0 0 (.slice none 0 0)) :=
    ((BoxW.new w 0 0 (.slice none 0 0) 24).below hb (by simp)).below ((Below.refl _ _).alloc (Nat.le_refl _) _) (Nat.lt_of_lt_of_le (by simp) hb.size)
  have HK1 : Hid (Kp CH w (w1.alloc (Obj.cells #[.int .i64 r, .int .i64 c, .slice (some ⟨g, 0, none⟩) n n] 24))) := Kp.of (((Below.refl _ w).alloc (Nat.le_refl _) _).trans ((hb.mono (by simp)).alloc (Nat.le_trans (by simp) hb.size) _))
  have HS1 : Hid (StH (0 * c) (w1.alloc (Obj.cells #[.int .i64 r, .int .i64 c, .slice (some ⟨g, 0, none⟩) n n] 24))) := trivial
  have hg0 : w.heap.size ≤ g := Nat.le_trans (by simp) hg
  have hgb : g ≠ w1.heap.size := by have := ho.2.1; omega
  generalize w1.alloc (Obj.cells #[.int .i64 r, .int .i64 c, .slice (some ⟨g, 0, none⟩) n n] 24) = w2 at *
  have hbs := hb.size
  have hg1 : w.heap.size + 1 ≤ g := by simpa using hg
  have hgr : g ≠ w.heap.size := by omega
  clear ho hb hg hg1
  have hb0 : w.heap.size < w1.heap.size := Nat.lt_of_lt_of_le (by simp) hbs
  generalize w1.heap.size = b at *
  have HCg : Hid (¬ CH g) := fun h => h
  have HCb : Hid (¬ CH b) := fun h => h
  have HCr : Hid (¬ CH w.heap.size) := fun h => h
  go_loopw [14] (fun is wr => ∃ j : Nat, j ≤ r ∧ is = .int .i64 (j : Int) ∧ Hid (FOwn wr g n (fillTo (hilbF c) (j * c) n)) ∧ Hid (BoxW wr b r c (.slice (some ⟨g, 0, none⟩) n n)) ∧ Hid (BoxW wr w.heap.size 0 0 (.slice none 0 0)) ∧ Hid (Kp CH w wr) ∧ Hid (StH (j * c) wr)) (fun is _ => r - (intOf is).toNat)
  case atStart => exact ⟨0, Nat.zero_le _, rfl, HO1, HB1, HR1, HK1, HS1⟩
  case round =>
    obtain ⟨j, hj, rfl, HOj, HBj, HRj, HKj, HSj⟩ := hrel
    by_cases hlt : j < r
    · go_wp2_with fail
      obtain ⟨wo, hwo⟩ : ∃ wo : World, wo = wr := ⟨_, rfl⟩
      have HO2 : Hid (FOwn wr g n (fillTo (hilbF c) (j * c + 0) n)) := HOj
      have HS2 : Hid (StH (j * c + 0) wr) := HSj
      clear HOj HSj hwo
      go_loopw [18] (fun ks wr => ∃ k : Nat, k ≤ c ∧ ks = .int .i64 (k : Int) ∧ Hid (FOwn wr g n (fillTo (hilbF c) (j * c + k) n)) ∧ Hid (BoxW wr b r c (.slice (some ⟨g, 0, none⟩) n n)) ∧ Hid (BoxW wr w.heap.size 0 0 (.slice none 0 0)) ∧ Hid (Kp CH w wr) ∧ Hid (StH (j * c + k) wr)) (fun ks _ => c - (intOf ks).toNat)
      case atStart => exact ⟨0, Nat.zero_le _, rfl, HO2, HBj, HRj, HKj, HS2⟩
      case round =>
        clear HO2 HBj HRj HKj HS2
        obtain ⟨k, hk, rfl, HO, HB, HR, HK, HS⟩ := hrel
        by_cases hkc : k < c
        · obtain ⟨p, hp⟩ : ∃ p, p = j * c + k := ⟨_, rfl⟩
          rw [← hp] at HO HS
          have hpn : p < n := by
            have h1 : (j + 1) * c ≤ r * c := Nat.mul_le_mul (by omega) (Nat.le_refl _)
            rw [HN.out, Nat.add_mul] at h1
            omega
          have HP : Hid (p = j * c + k) := hp
          clear hp
          obtain ⟨⟨c0, c1, c2⟩, -, -⟩ := HB.out
          go_wp2_with fail
          go_region_with (first
            | (go_at_call 43; refine (ofH_any c j k p _ HP.out.symm hkc (by omega) hc (by first | exact HS.out.drewN (n := 1) | exact HS.out)).mono ?_; rintro e wf ⟨rfl, hsf, hkf⟩; have hof := FOwn.kp (w := wr.drew) HO.out hkf HCg.out; obtain ⟨⟨d0, d1, d2⟩, -, -⟩ := HB.out.drew.kp hkf HCb.out)
            | (go_at_call 71; refine (set_any (r : Int) (c : Int) (j : Int) (k : Int) g n p (j * c) (fillTo (hilbF c) p n) ((hilbF c) p) _ (by first | exact hof | exact hof.drewN _) (by simp) (by rw [HP.out]; simp) hpn hrc (by have := HP.out; omega)).mono ?_; rintro e ws ⟨⟨v, rfl⟩, hos, hks⟩))
          all_goals (
            go_wp2_with fail
            have R1 : Hid (FOwn ws g n (fillTo (hilbF c) (j * c + (k + 1)) n)) := by
              rw [fillTo_step _ _ _ hpn] at hos
              rwa [HP.out, Nat.add_assoc] at hos
            have R2 : Hid (BoxW ws b r c (.slice (some ⟨g, 0, none⟩) n n)) := (HB.out.drew.kp hkf HCb.out).but hks hgb.symm
            have R5 : Hid (BoxW ws w.heap.size 0 0 (.slice none 0 0)) := (HR.out.drew.kp hkf HCr.out).but hks hgr.symm
            have R3 : Hid (Kp CH w ws) := ((HK.out.drewN 1).trans hkf).but hks hg0
            have R4 : Hid (StH (j * c + (k + 1)) ws) := by rw [← Nat.add_assoc, ← HP.out]; exact hsf.but hks HCg.out
            clear hos hks hsf hkf hof
            go_roundw
            case rel => exact ⟨k + 1, by omega, by go_num, R1, R2, R5, R3, R4⟩
            case measure => simp [intOf]; omega)
        · have hkc' : k = c := by omega
          have R1 : Hid (FOwn wr g n (fillTo (hilbF c) ((j + 1) * c) n)) := by have := HO.out; rwa [hkc', ← Nat.succ_mul] at this
          have R4 : Hid (StH ((j + 1) * c) wr) := by have := HS.out; rwa [hkc', ← Nat.succ_mul] at this
          clear hkc'
          clear HO HS
          go_wp2_with fail
          go_roundw
          case rel => exact ⟨j + 1, by omega, by go_num, R1, HB, HR, HK, R4⟩
          case measure => simp [intOf]; omega
    · obtain rfl : j = r := by omega
      obtain ⟨⟨c0, c1, c2⟩, -, -⟩ := HBj.out
      obtain ⟨⟨r0, r1, r2⟩, ⟨f0, f1, f2⟩, -⟩ := HRj.out
      obtain ⟨⟨e0, e1, e2⟩, -, -⟩ := HRj.out.put (x' := (j : Int)) (y' := (c : Int)) (s' := .slice (some ⟨g, 0, none⟩) n n)
      go_wp2_with fail
      (try simp only [Exit.inBlock, Exit.then])
      refine bodyPost_ret (by simp [results, Try.results42, go_sem, e0, e1, e2]; try rfl) rfl ?_
      refine ⟨g, rfl, hg0, ?_, ?_, ?_⟩
      · have := HOj.out
        rw [HN.out] at this
        exact ((this.other (by exact hgr.symm) _).other (by exact hgr.symm) _).other (by exact hgr.symm) _
      · exact ((HKj.out.setCell (Nat.le_refl _) _).setCell (Nat.le_refl _) _).setCell (Nat.le_refl _) _
      · rw [← HN.out]; exact trivial
end Go.Proofs.Yteblbalciemkiaa
