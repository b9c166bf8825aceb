/- The contract of the maker of a matrix out of a function of two indices, at the function of the drawn matrix. -/
import Derived.Test.YteblbalciemkiaaMade
namespace Go.Proofs.Yteblbalciemkiaa
open Go.RowKit Opn

/-- the seed behind p numbers -/
def seedAt (seed : Int) : Nat → Int
  | 0 => seed
  | p + 1 => (1103515245 * seedAt seed p + 12345) % 2147483648
theorem seedAt_bd (seed : Int) (h0 : 0 ≤ seed) (h1 : seed ≤ 2147483647) : ∀ p, 0 ≤ seedAt seed p ∧ seedAt seed p ≤ 2147483647
  | 0 => ⟨h0, h1⟩
  | p + 1 => by show 0 ≤ (1103515245 * seedAt seed p + 12345) % 2147483648 ∧ (1103515245 * seedAt seed p + 12345) % 2147483648 ≤ 2147483647; omega

/-- the number that a seed gives -/
def drawW (s : Int) : Nat := (floatBits .quo .f32 (floatOfInt .f32 (s / 65536 - 16384)) 1182793728).getD 0
theorem drawW_some (s : Int) : floatBits .quo .f32 (floatOfInt .f32 (s / 65536 - 16384)) 1182793728 = some (drawW s) := by
  have : (floatBits .quo .f32 (floatOfInt .f32 (s / 65536 - 16384)) 1182793728).isSome = true := by
    have hr : Flt.rung FloatKind.f32.format (floatOfInt .f32 (s / 65536 - 16384)) ≤ FloatKind.f32.format.infRung :=
      Flt.rung_write FloatKind.f32.format (.number (s / 65536 - 16384 < 0) (s / 65536 - 16384).natAbs 0) rfl
    have hb : FloatKind.f32.format.read 1182793728 = .number false 8388608 (-9) := by decide +kernel
    generalize floatOfInt .f32 (s / 65536 - 16384) = a at *
    show (FloatKind.f32.format.div a 1182793728).isSome = true
    unfold Ieee.Format.div
    rw [hb]
    rcases Nat.lt_or_ge (Flt.rung FloatKind.f32.format a) FloatKind.f32.format.infRung with h | h
    · rw [Flt.read_num _ a h]; rfl
    · rw [Flt.read_inf _ (Flt.ok _) a (Nat.le_antisymm hr h)]; rfl
  obtain ⟨r, hr⟩ := Option.isSome_iff_exists.1 this
  unfold drawW
  rw [hr]; rfl
/-- the drawn numbers -/
def drawF (seed : Int) (p : Nat) : Nat := drawW (seedAt seed (p + 1))

theorem draw_step (s : Int) : (∀ w : World, Flt.fB .quo .f32 (floatOfInt .f32 (s / 65536 - 16384)) 1182793728 w = drawW s) ∧ Flt.fN .quo .f32 (floatOfInt .f32 (s / 65536 - 16384)) 1182793728 = 0 := by
  have := drawW_some s
  refine ⟨fun w => ?_, ?_⟩
  · unfold Flt.fB; rw [this]; rfl
  · unfold Flt.fN; rw [this]; rfl

def CD (sb : Nat) (b : Nat) : Prop := b = sb
def StD (sb : Nat) (seed : Int) (p : Nat) (w : World) : Prop := w.cell? ⟨sb, 0, none⟩ = some (.int .i64 (seedAt seed p)) ∧ w.frozen? ⟨sb, 0, none⟩ = false ∧ sb < w.heap.size
theorem StD.but {sb p g : Nat} {seed : Int} {w w' : World} (h : StD sb seed p w) (k : But g w w') (hg : ¬ CD sb g) : StD sb seed p w' :=
  ⟨by rw [k.cell (p := ⟨sb, 0, none⟩) h.2.2 (fun e => hg e.symm)]; exact h.1, by rw [k.frozen (p := ⟨sb, 0, none⟩) h.2.2 (fun e => hg e.symm)]; exact h.2.1, Nat.lt_of_lt_of_le h.2.2 k.size⟩
theorem StD.below {sb p B : Nat} {seed : Int} {w w' : World} (h : StD sb seed p w) (k : Below B w w') (hB : sb < B) : StD sb seed p w' :=
  ⟨by rw [k.cell (p := ⟨sb, 0, none⟩) hB]; exact h.1, by rw [k.frozen (p := ⟨sb, 0, none⟩) hB]; exact h.2.1, Nat.lt_of_lt_of_le h.2.2 k.size⟩
theorem StD.other {sb p : Nat} {seed : Int} {w : World} (h : StD sb seed p w) {q : Addr} (hq : q.block ≠ sb) (v : Value) : StD sb seed p (w.setCell q v) :=
  ⟨by rw [World.cell?_setCell_other (h := fun e => hq (by rw [e]))]; exact h.1, by rw [World.frozen?_setCell]; exact h.2.1, by simp [World.setCell]; exact h.2.2⟩
theorem StD.drewN {sb p n : Nat} {seed : Int} {w : World} (h : StD sb seed p w) : StD sb seed p (w.drewN n) := h

theorem draw1_any (sb p : Nat) (seed : Int) (i k : Int) (w : World) (h0 : 0 ≤ seed) (h1 : seed ≤ 2147483647) (hst : StD sb seed p w) : Calls Try.prog 49 #[.int .i64 i, .int .i64 k, .pointer (some ⟨sb, 0, none⟩)] w fun e w' => e = .returned (.float .f32 (drawF seed p)) ∧ w' = w.setCell ⟨sb, 0, none⟩ (.int .i64 (seedAt seed (p + 1))) := by
  obtain ⟨q1, q2⟩ := draw_step (seedAt seed (p + 1))
  obtain ⟨s0, s1⟩ := seedAt_bd seed h0 h1 p
  obtain ⟨t0, t1⟩ := seedAt_bd seed h0 h1 (p + 1)
  obtain ⟨c0, f0, hb⟩ := hst
  have hs : Hid ((1103515245 * seedAt seed p + 12345) % 2147483648 = seedAt seed (p + 1)) := rfl
  have hf : drawF seed p = drawW (seedAt seed (p + 1)) := rfl
  rw [hf]
  clear hf
  generalize seedAt seed (p + 1) = t at *
  generalize seedAt seed p = s at *
  have c1 : (w.setCell ⟨sb, 0, none⟩ (.int .i64 t)).cell? ⟨sb, 0, none⟩ = some (.int .i64 t) := by simp [go_sem, c0]
  have hs' := hs.out
  clear hs
  go_enter Try.func49, Try.ntmps49
  go_wp2
  go_ret
  exact ⟨rfl, rfl⟩

theorem ofD_any (sb : Nat) (seed : Int) (h0 : 0 ≤ seed) (h1 : seed ≤ 2147483647) (c j k p : Nat) (w : World) (_ : j * c + k = p) (_ : k < c) (_ : j < 12) (_ : c ≤ 12) (hst : StD sb seed p w) : Calls Try.prog 49 #[.int .i64 j, .int .i64 k, .pointer (some ⟨sb, 0, none⟩)] w fun e w' => e = .returned (.float .f32 (drawF seed p)) ∧ StD sb seed (p + 1) w' ∧ Kp (CD sb) w w' :=
  (draw1_any sb p seed j k w h0 h1 hst).mono fun e w' ⟨he, hw⟩ => by
    subst hw
    obtain ⟨c0, f0, hb⟩ := hst
    refine ⟨he, ⟨by simp [go_sem, c0], by simp [go_sem, f0], by simp [World.setCell]; exact hb⟩, ⟨rfl, rfl, rfl, by simp [World.setCell], fun b hb hc => ?_⟩⟩
    exact Below.heap_setCell _ _ _ _ (fun e => hc e)

set_option maxHeartbeats 2000000 in
theorem madeD_any (r c : Nat) (w : World) (sb : Nat) (seed : Int) (hs0 : 0 ≤ seed) (hs1 : seed ≤ 2147483647) (hsb : sb < w.heap.size) (hr : r ≤ 12) (hc : c ≤ 12) (hst : StD sb seed 0 w) : Calls Try.prog 42 #[.int .i64 r, .int .i64 c, .func (.func 49) #[] #[.pointer (some ⟨sb, 0, none⟩)]] w fun e w' => ∃ g, e = .returned (.agg #[.int .i64 r, .int .i64 c, .slice (some ⟨g, 0, none⟩) (r * c : Nat) (r * c : Nat)]) ∧ w.heap.size ≤ g ∧ FOwn w' g (r * c) (fillTo (drawF seed) (r * c) (r * c)) ∧ Kp (CD sb) w w' ∧ StD sb seed (r * c) w' := by
  have hrc : r * c ≤ 1048576 := Nat.le_trans (Nat.mul_le_mul hr hc) (by decide)
  have HSB : Hid (sb < w.heap.size) := hsb
  clear hsb
  obtain ⟨n, hn⟩ : ∃ n, r * c = n := ⟨_, rfl⟩
  rw [hn] at hrc ⊢
  have HN : Hid (r * c = n) := hn
  have HC : Hid ((r : Int) * (c : Int) = (n : Int)) := by show (r : Int) * (c : Int) = (n : Int); rw [← hn]; simp
  have HS0 : Hid (StD sb seed 0 w) := hst
  clear hn hst
  go_enter Try.func42, Try.ntmps42
  go_wp2_with fail
  refine (newM_any (r : Int) (c : Int) n _ HC.out hrc).mono ?_
  rintro e w1 ⟨g, rfl, hg, ho, hb⟩
  go_wp2_with fail
  have HO1 : Hid (FOwn (w1.alloc (Obj.cells #[.int .i64 r, .int .i64 c, .slice (some ⟨g, 0, none⟩) n n] 24)) g n (fillTo (drawF seed) (0 * c) n)) := by
    have := ho.below ((Below.refl _ w1).alloc (Nat.le_refl _) (Obj.cells #[.int .i64 r, .int .i64 c, .slice (some ⟨g, 0, none⟩) n n] 24)) ho.2.1
    rw [Nat.zero_mul, fillTo_zero]
    exact this
  have HB1 : Hid (BoxW (w1.alloc (Obj.cells #[.int .i64 r, .int .i64 c, .slice (some ⟨g, 0, none⟩) n n] 24)) w1.heap.size r c (.slice (some ⟨g, 0, none⟩) n n)) := BoxW.new _ _ _ _ _
  have HR1 : Hid (BoxW (w1.alloc (Obj.cells #[.int .i64 r, .int .i64 c, .slice (some ⟨g, 0, none⟩) n n] 24)) w.heap.size 0 0 (.slice none 0 0)) :=
    ((BoxW.new w 0 0 (.slice none 0 0) 24).below hb (by simp)).below ((Below.refl _ _).alloc (Nat.le_refl _) _) (Nat.lt_of_lt_of_le (by simp) hb.size)
  have HK1 : Hid (Kp (CD sb) w (w1.alloc (Obj.cells #[.int .i64 r, .int .i64 c, .slice (some ⟨g, 0, none⟩) n n] 24))) := Kp.of (((Below.refl _ w).alloc (Nat.le_refl _) _).trans ((hb.mono (by simp)).alloc (Nat.le_trans (by simp) hb.size) _))
  have HS1 : Hid (StD sb seed (0 * c) (w1.alloc (Obj.cells #[.int .i64 r, .int .i64 c, .slice (some ⟨g, 0, none⟩) n n] 24))) := (by have := ((HS0.out.below (B := w.heap.size) (((Below.refl _ w).alloc (Nat.le_refl _) _).trans (hb.mono (by simp))) HSB.out).below ((Below.refl _ w1).alloc (Nat.le_refl _) (Obj.cells #[.int .i64 r, .int .i64 c, .slice (some ⟨g, 0, none⟩) n n] 24)) (Nat.lt_of_lt_of_le HSB.out (Nat.le_trans (by simp) hb.size))); rwa [Nat.zero_mul])
  have hg0 : w.heap.size ≤ g := Nat.le_trans (by simp) hg
  have hgb : g ≠ w1.heap.size := by have := ho.2.1; omega
  generalize w1.alloc (Obj.cells #[.int .i64 r, .int .i64 c, .slice (some ⟨g, 0, none⟩) n n] 24) = w2 at *
  have hbs := hb.size
  have hg1 : w.heap.size + 1 ≤ g := by simpa using hg
  have hgr : g ≠ w.heap.size := by omega
  clear ho hb hg hg1
  have hb0 : w.heap.size < w1.heap.size := Nat.lt_of_lt_of_le (by simp) hbs
  generalize w1.heap.size = b at *
  have HCg : Hid (¬ (CD sb) g) := fun h => by have := HSB.out; have h : g = sb := h; omega
  have HCb : Hid (¬ (CD sb) b) := fun h => by have := HSB.out; have h : b = sb := h; omega
  have HCr : Hid (¬ (CD sb) w.heap.size) := fun h => by have := HSB.out; have h : w.heap.size = sb := h; omega
  go_loopw [14] (fun is wr => ∃ j : Nat, j ≤ r ∧ is = .int .i64 (j : Int) ∧ Hid (FOwn wr g n (fillTo (drawF seed) (j * c) n)) ∧ Hid (BoxW wr b r c (.slice (some ⟨g, 0, none⟩) n n)) ∧ Hid (BoxW wr w.heap.size 0 0 (.slice none 0 0)) ∧ Hid (Kp (CD sb) w wr) ∧ Hid (StD sb seed (j * c) wr)) (fun is _ => r - (intOf is).toNat)
  case atStart => exact ⟨0, Nat.zero_le _, rfl, HO1, HB1, HR1, HK1, HS1⟩
  case round =>
    obtain ⟨j, hj, rfl, HOj, HBj, HRj, HKj, HSj⟩ := hrel
    by_cases hlt : j < r
    · go_wp2_with fail
      obtain ⟨wo, hwo⟩ : ∃ wo : World, wo = wr := ⟨_, rfl⟩
      have HO2 : Hid (FOwn wr g n (fillTo (drawF seed) (j * c + 0) n)) := HOj
      have HS2 : Hid (StD sb seed (j * c + 0) wr) := HSj
      clear HOj HSj hwo
      go_loopw [18] (fun ks wr => ∃ k : Nat, k ≤ c ∧ ks = .int .i64 (k : Int) ∧ Hid (FOwn wr g n (fillTo (drawF seed) (j * c + k) n)) ∧ Hid (BoxW wr b r c (.slice (some ⟨g, 0, none⟩) n n)) ∧ Hid (BoxW wr w.heap.size 0 0 (.slice none 0 0)) ∧ Hid (Kp (CD sb) w wr) ∧ Hid (StD sb seed (j * c + k) wr)) (fun ks _ => c - (intOf ks).toNat)
      case atStart => exact ⟨0, Nat.zero_le _, rfl, HO2, HBj, HRj, HKj, HS2⟩
      case round =>
        clear HO2 HBj HRj HKj HS2
        obtain ⟨k, hk, rfl, HO, HB, HR, HK, HS⟩ := hrel
        by_cases hkc : k < c
        · obtain ⟨p, hp⟩ : ∃ p, p = j * c + k := ⟨_, rfl⟩
          rw [← hp] at HO HS
          have hpn : p < n := by
            have h1 : (j + 1) * c ≤ r * c := Nat.mul_le_mul (by omega) (Nat.le_refl _)
            rw [HN.out, Nat.add_mul] at h1
            omega
          have HP : Hid (p = j * c + k) := hp
          clear hp
          obtain ⟨⟨c0, c1, c2⟩, -, -⟩ := HB.out
          go_wp2_with fail
          go_region_with (first
            | (go_at_call 49; refine (ofD_any sb seed hs0 hs1 c j k p _ HP.out.symm hkc (by omega) hc (by first | exact HS.out.drewN (n := 1) | exact HS.out)).mono ?_; rintro e wf ⟨rfl, hsf, hkf⟩; have hof := FOwn.kp (w := wr.drew) HO.out hkf HCg.out; obtain ⟨⟨d0, d1, d2⟩, -, -⟩ := HB.out.drew.kp hkf HCb.out)
            | (go_at_call 71; refine (set_any (r : Int) (c : Int) (j : Int) (k : Int) g n p (j * c) (fillTo (drawF seed) p n) ((drawF seed) p) _ (by first | exact hof | exact hof.drewN _) (by simp) (by rw [HP.out]; simp) hpn hrc (by have := HP.out; omega)).mono ?_; rintro e ws ⟨⟨v, rfl⟩, hos, hks⟩))
          all_goals (
            go_wp2_with fail
            have R1 : Hid (FOwn ws g n (fillTo (drawF seed) (j * c + (k + 1)) n)) := by
              rw [fillTo_step _ _ _ hpn] at hos
              rwa [HP.out, Nat.add_assoc] at hos
            have R2 : Hid (BoxW ws b r c (.slice (some ⟨g, 0, none⟩) n n)) := (HB.out.drew.kp hkf HCb.out).but hks hgb.symm
            have R5 : Hid (BoxW ws w.heap.size 0 0 (.slice none 0 0)) := (HR.out.drew.kp hkf HCr.out).but hks hgr.symm
            have R3 : Hid (Kp (CD sb) w ws) := ((HK.out.drewN 1).trans hkf).but hks hg0
            have R4 : Hid (StD sb seed (j * c + (k + 1)) ws) := by rw [← Nat.add_assoc, ← HP.out]; exact hsf.but hks HCg.out
            clear hos hks hsf hkf hof
            go_roundw
            case rel => exact ⟨k + 1, by omega, by go_num, R1, R2, R5, R3, R4⟩
            case measure => simp [intOf]; omega)
        · have hkc' : k = c := by omega
          have R1 : Hid (FOwn wr g n (fillTo (drawF seed) ((j + 1) * c) n)) := by have := HO.out; rwa [hkc', ← Nat.succ_mul] at this
          have R4 : Hid (StD sb seed ((j + 1) * c) wr) := by have := HS.out; rwa [hkc', ← Nat.succ_mul] at this
          clear hkc'
          clear HO HS
          go_wp2_with fail
          go_roundw
          case rel => exact ⟨j + 1, by omega, by go_num, R1, HB, HR, HK, R4⟩
          case measure => simp [intOf]; omega
    · obtain rfl : j = r := by omega
      obtain ⟨⟨c0, c1, c2⟩, -, -⟩ := HBj.out
      obtain ⟨⟨r0, r1, r2⟩, ⟨f0, f1, f2⟩, -⟩ := HRj.out
      obtain ⟨⟨e0, e1, e2⟩, -, -⟩ := HRj.out.put (x' := (j : Int)) (y' := (c : Int)) (s' := .slice (some ⟨g, 0, none⟩) n n)
      go_wp2_with fail
      (try simp only [Exit.inBlock, Exit.then])
      refine bodyPost_ret (by simp [results, Try.results42, go_sem, e0, e1, e2]; try rfl) rfl ?_
      refine ⟨g, rfl, hg0, ?_, ?_, ?_⟩
      · have := HOj.out
        rw [HN.out] at this
        exact ((this.other (by exact hgr.symm) _).other (by exact hgr.symm) _).other (by exact hgr.symm) _
      · exact ((HKj.out.setCell (Nat.le_refl _) _).setCell (Nat.le_refl _) _).setCell (Nat.le_refl _) _
      · rw [← HN.out]; exact ((HSj.out.other (by have := HSB.out; show w.heap.size ≠ sb; omega) _).other (by have := HSB.out; show w.heap.size ≠ sb; omega) _).other (by have := HSB.out; show w.heap.size ≠ sb; omega) _
end Go.Proofs.Yteblbalciemkiaa
