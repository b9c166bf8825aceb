/- The contract of the maker of a matrix out of a function of two indices, at the function of the unit. -/
import Derived.Test.YteblbalciemkiaaMade
namespace Go.Proofs.Yteblbalciemkiaa
open Go.RowKit Opn

/-- the unit's numbers -/
def unitF (c : Nat) (p : Nat) : Nat := if p / c = p % c then 1065353216 else 0

theorem unit1_any (i k : Int) (w : World) : Calls Try.prog 73 #[.int .i64 i, .int .i64 k] w fun e w' => e = .returned (.float .f32 (if i = k then 1065353216 else 0)) ∧ w' = w := by
  by_cases h : i = k
  · have h1 : (i == k) = true := by simpa using h
    rw [if_pos h]
    clear h
    go_enter Try.func73, Try.ntmps73
    go_wp2
    go_ret
    exact ⟨rfl, rfl⟩
  · have h1 : (i == k) = false := by simpa using h
    rw [if_neg h]
    clear h
    go_enter Try.func73, Try.ntmps73
    go_wp2
    go_ret
    exact ⟨rfl, rfl⟩

theorem unitF_at (c j k : Nat) (h : k < c) : unitF c (j * c + k) = if (j : Int) = (k : Int) then 1065353216 else 0 := by
  unfold unitF
  rw [Nat.mul_comm, Nat.mul_add_div (by omega), Nat.div_eq_of_lt h, Nat.add_zero, Nat.mul_add_mod, Nat.mod_eq_of_lt h]
  by_cases e : j = k
  · rw [if_pos e, if_pos (by omega)]
  · rw [if_neg e, if_neg (by omega)]

def CU (_ : Nat) : Prop := False
def StU (_ : Nat) (_ : World) : Prop := True
theorem ofU_any (c j k p : Nat) (w : World) (hp : j * c + k = p) (hk : k < c) (_ : j < 12) (_ : c ≤ 12) (_ : StU p w) : Calls Try.prog 73 #[.int .i64 j, .int .i64 k] w fun e w' => e = .returned (.float .f32 (unitF c p)) ∧ StU (p + 1) w' ∧ Kp CU w w' :=
  (unit1_any j k w).mono fun e w' ⟨he, hw⟩ => ⟨by rw [he, ← hp, unitF_at c j k hk], trivial, by rw [hw]; exact Kp.refl _ _⟩
theorem StU.but {p g : Nat} {w w' : World} (_ : StU p w) (_ : But g w w') (_ : ¬ CU g) : StU p w' := trivial
theorem StU.drewN {p n : Nat} {w : World} (_ : StU p w) : StU p (w.drewN n) := trivial

set_option maxHeartbeats 2000000 in
theorem madeU_any (r c : Nat) (w : World) (hr : r ≤ 12) (hc : c ≤ 12) (hst : StU 0 w) : Calls Try.prog 42 #[.int .i64 r, .int .i64 c, .func (.func 73) #[] #[]] w fun e w' => ∃ g, e = .returned (.agg #[.int .i64 r, .int .i64 c, .slice (some ⟨g, 0, none⟩) (r * c : Nat) (r * c : Nat)]) ∧ w.heap.size ≤ g ∧ FOwn w' g (r * c) (fillTo (unitF c) (r * c) (r * c)) ∧ Kp CU w w' ∧ StU (r * c) w' := by
  have hrc : r * c ≤ 1048576 := Nat.le_trans (Nat.mul_le_mul hr hc) (by decide)
  obtain ⟨n, hn⟩ : ∃ n, r * c = n := ⟨_, rfl⟩
  rw [hn] at hrc ⊢
  have HN : Hid (r * c = n) := hn
  have HC : Hid ((r : Int) * (c : Int) = (n : Int)) := by show (r : Int) * (c : Int) = (n : Int); rw [← hn]; simp
  have HS0 : Hid (StU 0 w) := hst
  clear hn hst
  go_enter Try.func42, Try.ntmps42
  go_wp2_with fail
  refine (newM_any (r : Int) (c : Int) n _ HC.out hrc).mono ?_
  rintro e w1 ⟨g, rfl, hg, ho, hb⟩
  go_wp2_with fail
  have HO1 : Hid (FOwn (w1.alloc (Obj.cells #[.int .i64 r, .int .i64 c, .slice (some ⟨g, 0, none⟩) n n] 24)) g n (fillTo (unitF c) (0 * c) n)) := by
    have := ho.below ((Below.refl _ w1).alloc (Nat.le_refl _) (Obj.cells #[.int .i64 r, .int .i64 c, .slice (some ⟨g, 0, none⟩) n n] 24)) ho.2.1
    rw [Nat.zero_mul, fillTo_zero]
    exact this
  have HB1 : Hid (BoxW (w1.alloc (Obj.cells #[.int .i64 r, .int .i64 c, .slice (some ⟨g, 0, none⟩) n n] 24)) w1.heap.size r c (.slice (some ⟨g, 0, none⟩) n n)) := BoxW.new _ _ _ _ _
  have HR1 : Hid (BoxW (w1.alloc (Obj.cells #[.int .i64 r, .int .i64 c, .slice (some ⟨g, 0, none⟩) n n] 24)) w.heap.size 0 0 (.slice none 0 0)) :=
    ((BoxW.new w 0 0 (.slice none 0 0) 24).below hb (by simp)).below ((Below.refl _ _).alloc (Nat.le_refl _) _) (Nat.lt_of_lt_of_le (by simp) hb.size)
  have HK1 : Hid (Kp CU w (w1.alloc (Obj.cells #[.int .i64 r, .int .i64 c, .slice (some ⟨g, 0, none⟩) n n] 24))) := Kp.of (((Below.refl _ w).alloc (Nat.le_refl _) _).trans ((hb.mono (by simp)).alloc (Nat.le_trans (by simp) hb.size) _))
  have HS1 : Hid (StU (0 * c) (w1.alloc (Obj.cells #[.int .i64 r, .int .i64 c, .slice (some ⟨g, 0, none⟩) n n] 24))) := trivial
  have hg0 : w.heap.size ≤ g := Nat.le_trans (by simp) hg
  have hgb : g ≠ w1.heap.size := by have := ho.2.1; omega
  generalize w1.alloc (Obj.cells #[.int .i64 r, .int .i64 c, .slice (some ⟨g, 0, none⟩) n n] 24) = w2 at *
  have hbs := hb.size
  have hg1 : w.heap.size + 1 ≤ g := by simpa using hg
  have hgr : g ≠ w.heap.size := by omega
  clear ho hb hg hg1
  have hb0 : w.heap.size < w1.heap.size := Nat.lt_of_lt_of_le (by simp) hbs
  generalize w1.heap.size = b at *
  have HCg : Hid (¬ CU g) := fun h => h
  have HCb : Hid (¬ CU b) := fun h => h
  have HCr : Hid (¬ CU w.heap.size) := fun h => h
  go_loopw [14] (fun is wr => ∃ j : Nat, j ≤ r ∧ is = .int .i64 (j : Int) ∧ Hid (FOwn wr g n (fillTo (unitF c) (j * c) n)) ∧ Hid (BoxW wr b r c (.slice (some ⟨g, 0, none⟩) n n)) ∧ Hid (BoxW wr w.heap.size 0 0 (.slice none 0 0)) ∧ Hid (Kp CU w wr) ∧ Hid (StU (j * c) wr)) (fun is _ => r - (intOf is).toNat)
  case atStart => exact ⟨0, Nat.zero_le _, rfl, HO1, HB1, HR1, HK1, HS1⟩
  case round =>
    obtain ⟨j, hj, rfl, HOj, HBj, HRj, HKj, HSj⟩ := hrel
    by_cases hlt : j < r
    · go_wp2_with fail
      obtain ⟨wo, hwo⟩ : ∃ wo : World, wo = wr := ⟨_, rfl⟩
      have HO2 : Hid (FOwn wr g n (fillTo (unitF c) (j * c + 0) n)) := HOj
      have HS2 : Hid (StU (j * c + 0) wr) := HSj
      clear HOj HSj hwo
      go_loopw [18] (fun ks wr => ∃ k : Nat, k ≤ c ∧ ks = .int .i64 (k : Int) ∧ Hid (FOwn wr g n (fillTo (unitF c) (j * c + k) n)) ∧ Hid (BoxW wr b r c (.slice (some ⟨g, 0, none⟩) n n)) ∧ Hid (BoxW wr w.heap.size 0 0 (.slice none 0 0)) ∧ Hid (Kp CU w wr) ∧ Hid (StU (j * c + k) wr)) (fun ks _ => c - (intOf ks).toNat)
      case atStart => exact ⟨0, Nat.zero_le _, rfl, HO2, HBj, HRj, HKj, HS2⟩
      case round =>
        clear HO2 HBj HRj HKj HS2
        obtain ⟨k, hk, rfl, HO, HB, HR, HK, HS⟩ := hrel
        by_cases hkc : k < c
        · obtain ⟨p, hp⟩ : ∃ p, p = j * c + k := ⟨_, rfl⟩
          rw [← hp] at HO HS
          have hpn : p < n := by
            have h1 : (j + 1) * c ≤ r * c := Nat.mul_le_mul (by omega) (Nat.le_refl _)
            rw [HN.out, Nat.add_mul] at h1
            omega
          have HP : Hid (p = j * c + k) := hp
          clear hp
          obtain ⟨⟨c0, c1, c2⟩, -, -⟩ := HB.out
          go_wp2_with fail
          go_region_with (first
            | (go_at_call 73; refine (ofU_any c j k p _ HP.out.symm hkc (by omega) hc (by first | exact HS.out.drewN (n := 1) | exact HS.out)).mono ?_; rintro e wf ⟨rfl, hsf, hkf⟩; have hof := FOwn.kp (w := wr.drew) HO.out hkf HCg.out; obtain ⟨⟨d0, d1, d2⟩, -, -⟩ := HB.out.drew.kp hkf HCb.out)
            | (go_at_call 71; refine (set_any (r : Int) (c : Int) (j : Int) (k : Int) g n p (j * c) (fillTo (unitF c) p n) ((unitF c) p) _ (by first | exact hof | exact hof.drewN _) (by simp) (by rw [HP.out]; simp) hpn hrc (by have := HP.out; omega)).mono ?_; rintro e ws ⟨⟨v, rfl⟩, hos, hks⟩))
          all_goals (
            go_wp2_with fail
            have R1 : Hid (FOwn ws g n (fillTo (unitF c) (j * c + (k + 1)) n)) := by
              rw [fillTo_step _ _ _ hpn] at hos
              rwa [HP.out, Nat.add_assoc] at hos
            have R2 : Hid (BoxW ws b r c (.slice (some ⟨g, 0, none⟩) n n)) := (HB.out.drew.kp hkf HCb.out).but hks hgb.symm
            have R5 : Hid (BoxW ws w.heap.size 0 0 (.slice none 0 0)) := (HR.out.drew.kp hkf HCr.out).but hks hgr.symm
            have R3 : Hid (Kp CU w ws) := ((HK.out.drewN 1).trans hkf).but hks hg0
            have R4 : Hid (StU (j * c + (k + 1)) ws) := by rw [← Nat.add_assoc, ← HP.out]; exact hsf.but hks HCg.out
            clear hos hks hsf hkf hof
            go_roundw
            case rel => exact ⟨k + 1, by omega, by go_num, R1, R2, R5, R3, R4⟩
            case measure => simp [intOf]; omega)
        · have hkc' : k = c := by omega
          have R1 : Hid (FOwn wr g n (fillTo (unitF c) ((j + 1) * c) n)) := by have := HO.out; rwa [hkc', ← Nat.succ_mul] at this
          have R4 : Hid (StU ((j + 1) * c) wr) := by have := HS.out; rwa [hkc', ← Nat.succ_mul] at this
          clear hkc'
          clear HO HS
          go_wp2_with fail
          go_roundw
          case rel => exact ⟨j + 1, by omega, by go_num, R1, HB, HR, HK, R4⟩
          case measure => simp [intOf]; omega
    · obtain rfl : j = r := by omega
      obtain ⟨⟨c0, c1, c2⟩, -, -⟩ := HBj.out
      obtain ⟨⟨r0, r1, r2⟩, ⟨f0, f1, f2⟩, -⟩ := HRj.out
      obtain ⟨⟨e0, e1, e2⟩, -, -⟩ := HRj.out.put (x' := (j : Int)) (y' := (c : Int)) (s' := .slice (some ⟨g, 0, none⟩) n n)
      go_wp2_with fail
      (try simp only [Exit.inBlock, Exit.then])
      refine bodyPost_ret (by simp [results, Try.results42, go_sem, e0, e1, e2]; try rfl) rfl ?_
      refine ⟨g, rfl, hg0, ?_, ?_, ?_⟩
      · have := HOj.out
        rw [HN.out] at this
        exact ((this.other (by exact hgr.symm) _).other (by exact hgr.symm) _).other (by exact hgr.symm) _
      · exact ((HKj.out.setCell (Nat.le_refl _) _).setCell (Nat.le_refl _) _).setCell (Nat.le_refl _) _
      · rw [← HN.out]; exact trivial
end Go.Proofs.Yteblbalciemkiaa
