/- The contract of the reference's empty matrix, and of its row of reciprocals. -/
import Derived.Test.YteblbalciemkiaaMadeH
import Derived.Test.YteblbalciemkiaaValid
import Derived.IntWalk
import Derived.Deep.AppendLies
import Derived.Deep.RegionLaw
namespace Go.Proofs.Yteblbalciemkiaa
open Go.RowKit Opn

theorem info_f32 : (Try.prog.info? 55).map (fun i => (i.zero, i.size, i.bytes)) = some (some (.float .f32 0), 1, 4) := by kernel_rfl

theorem hilbF_lt (n p : Nat) : hilbF n p < 4294967296 := by
  unfold hilbF hilbW
  cases h : floatBits .quo .f32 1065353216 (floatOfInt .f32 (((p / n + p % n : Nat) : Int) + 1)) with
  | none => exact (by omega : (0 : Nat) < 4294967296)
  | some r => exact Flt.floatBits_lt h
theorem FRow.other {w : World} {b off n cap : Nat} {zs : List Nat} (r : FRow w (.slice (some ⟨b, off, none⟩) n cap) n zs) {p : Addr} (h : p.block ≠ b) (v : Value) : FRow (w.setCell p v) (.slice (some ⟨b, off, none⟩) n cap) n zs := by
  obtain ⟨h1, h2, h3, h4⟩ := r
  refine ⟨h1, h2, h3, ?_⟩
  rcases h4 with h4 | ⟨h0, b', off', cap', hv, hc, hm, hlt, hcell⟩
  · exact .inl h4
  · simp only [Value.slice.injEq, Option.some.injEq, Addr.mk.injEq, and_true, true_and] at hv
    obtain ⟨⟨rfl, rfl⟩, rfl⟩ := hv
    refine .inr ⟨h0, b, off, cap, rfl, hc, hm, by simpa [World.setCell] using hlt, fun i hi => ?_⟩
    rw [World.cell?_setCell_other (h := fun e => h (by rw [e]))]
    exact hcell i hi
theorem frow_of_own {w : World} {base g i cp : Nat} {F : Nat → Nat} (ho : World.ownsRow w base 55 1 (.slice (some ⟨g, 0, none⟩) i cp) i ((List.range i).map fun p => Value.float .f32 (F p))) (hi : 0 < i) (hle : i ≤ 1048576) (hlt : ∀ p, F p < 4294967296) : FRow w (.slice (some ⟨g, 0, none⟩) i cp) i ((List.range i).map F) := by
  refine ⟨by simp, show i ≤ 9223372036854775807 by omega, fun z hz => by obtain ⟨p, -, rfl⟩ := List.mem_map.1 hz; exact hlt p, .inr ⟨hi, g, 0, cp, rfl, ?_, ?_, ?_, fun j hj => ?_⟩⟩
  · rcases ho.2 with ⟨h, _⟩ | ⟨g', c', cur, hv, _, _, h1, _⟩
    · cases h
    · simp at hv; omega
  · rcases ho.2 with ⟨h, _⟩ | ⟨g', c', cur, hv, _, _, _, h1, _⟩
    · cases h
    · simp at hv; obtain ⟨-, rfl⟩ := hv; exact h1
  · have := ho.form hi
    obtain ⟨g', c', hv, _, hl⟩ := this
    simp at hv; omega
  · have := ho.cellAt j (by omega)
    rw [Nat.zero_add, this]
    simp [List.getD, hj]
theorem grownBy_set (w : World) (p : Addr) (v : Value) : w.grownBy (w.setCell p v) (some p.block) := ⟨rfl, rfl, rfl, by simp [World.setCell], fun k _ hne => Below.heap_setCell _ _ _ _ (fun e => hne (by rw [e]))⟩
theorem BoxW.grown {W W' : World} {b : Nat} {x y : Int} {s : Value} (h : BoxW W b x y s) {row : Option Nat} (k : W.grownBy W' row) (hb : some b ≠ row) : BoxW W' b x y s :=
  h.same (fun i => k.cell_far ⟨b, i, none⟩ h.2.2 hb) (fun i => k.frozen_far ⟨b, i, none⟩ h.2.2 hb) k.size
theorem BoxW.put2 {W : World} {b : Nat} {x y : Int} {s s' : Value} (h : BoxW W b x y s) : BoxW (W.setCell ⟨b, 2, none⟩ s') b x y s' := by
  obtain ⟨⟨h0, h1, h2⟩, ⟨f0, f1, f2⟩, h3⟩ := h
  exact ⟨⟨by simp [go_sem, h0], by simp [go_sem, h1], by simp [go_sem, h2]⟩, ⟨by simp [go_sem, f0], by simp [go_sem, f1], by simp [go_sem, f2]⟩, by simp [World.setCell]; exact h3⟩

set_option maxHeartbeats 1000000 in
theorem blank_any (x y : Int) (w : World) : Calls Try.prog 40 #[.int .i64 x, .int .i64 y] w fun e w' => ∃ g, e = .returned (.agg #[.int .i64 x, .int .i64 y, .slice (some ⟨g, 0, none⟩) 0 0]) ∧ w.heap.size + 1 ≤ g ∧ g < w'.heap.size ∧ w'.ownsRow (w.heap.size + 1) 55 1 (.slice (some ⟨g, 0, none⟩) 0 0) 0 [] ∧ Below w.heap.size w w' := by
  obtain ⟨⟨r0, r1, r2⟩, ⟨f0, f1, f2⟩, -⟩ := BoxW.new w 0 0 (.slice none 0 0) 24
  go_enter Try.func40, Try.ntmps40
  go_wp2
  (try simp only [Exit.inBlock, Exit.then])
  refine bodyPost_ret (by simp [results, Try.results40, go_sem]; try rfl) rfl ?_
  refine ⟨w.heap.size + 1, rfl, Nat.le_refl _, by simp, ⟨rfl, .inr ⟨w.heap.size + 1, 0, #[], rfl, Nat.le_refl _, ?_, Nat.le_refl _, Nat.zero_le _, rfl, rfl⟩⟩, by go_grown⟩
  have := heap_alloc_new (w.alloc (Obj.cells #[.int .i64 x, .int .i64 y, .slice (some ⟨w.heap.size + 1, 0, none⟩) 0 0] 24)) (Obj.cells #[] 55)
  simpa using this

set_option maxHeartbeats 2000000 in
theorem hilbS_ok (n : Nat) (w : World) (h0 : 1 ≤ n) (hn : n ≤ 12) : Calls Try.prog 11 #[.int .i64 n] w fun e w' => ∃ s, e = .returned (.tuple #[.agg #[.int .i64 n, .int .i64 n, s], .bool true]) ∧ FRow w' s (n * n) ((List.range (n * n)).map (hilbF n)) ∧ Below w.heap.size w w' := by
  have hN : n * n ≤ 144 := Nat.mul_le_mul hn hn
  obtain ⟨i0, hi0, hz0, hz1, hz2⟩ := info_parts info_f32
  have hsd : sideB (n : Int) = true := by unfold sideB; simp; omega
  have HS : Hid (∀ w, Calls Try.prog 39 #[.int .i64 n, .int .i64 1, .int .i64 12] w fun e w' => e = .returned (.bool true) ∧ w' = w) := fun w => by have := in_spec (n : Int) w; rwa [hsd] at this
  clear hsd
  obtain ⟨N, hNN⟩ : ∃ N, N = n * n := ⟨_, rfl⟩
  have hNp : 1 ≤ N := by rw [hNN]; exact Nat.mul_le_mul h0 h0
  have HW : Hid (wrap64 ((n : Int) * (n : Int)) = (N : Int)) := by
    have : (n : Int) * (n : Int) = (N : Int) := by rw [hNN]; simp
    show wrap64 ((n : Int) * (n : Int)) = (N : Int)
    rw [this]; unfold wrap64; omega
  rw [← hNN] at hN ⊢
  have HN : Hid (N = n * n) := hNN
  clear hNN
  go_enter Try.func11, Try.ntmps11
  go_wp2_with (go_at_call 39; (with_reducible refine (HS.out _).mono ?_); rintro e w' ⟨rfl, rfl⟩)
  refine (blank_any n n _).mono ?_
  rintro e w1 ⟨g, rfl, hg, hgl, ho, hb⟩
  have hg1 : w.heap.size + 2 ≤ g := by simpa using hg
  have ho1 : w1.ownsRow (w.heap.size + 2) 55 1 (.slice (some ⟨g, 0, none⟩) 0 0) 0 [] := by simpa using ho
  clear hg ho
  go_wp2_with fail
  have HO1 : Hid (World.ownsRow (w1.alloc (Obj.cells #[.int .i64 n, .int .i64 n, .slice (some ⟨g, 0, none⟩) 0 0] 24)) (w.heap.size + 2) 55 1 (.slice (some ⟨g, 0, none⟩) 0 0) 0 []) := ho1.alloc _
  have HB1 : Hid (BoxW (w1.alloc (Obj.cells #[.int .i64 n, .int .i64 n, .slice (some ⟨g, 0, none⟩) 0 0] 24)) w1.heap.size n n (.slice (some ⟨g, 0, none⟩) 0 0)) := BoxW.new _ _ _ _ _
  have HR1 : Hid (BoxW (w1.alloc (Obj.cells #[.int .i64 n, .int .i64 n, .slice (some ⟨g, 0, none⟩) 0 0] 24)) w.heap.size 0 0 (.slice none 0 0)) :=
    ((BoxW.new w 0 0 (.slice none 0 0) 24).below hb (by simp)).below ((Below.refl _ _).alloc (Nat.le_refl _) _) (Nat.lt_of_lt_of_le (by simp) hb.size)
  have HK1 : Hid (Below w.heap.size w (w1.alloc (Obj.cells #[.int .i64 n, .int .i64 n, .slice (some ⟨g, 0, none⟩) 0 0] 24))) := ((Below.refl _ w).alloc (Nat.le_refl _) _).trans ((hb.mono (by simp)).alloc (Nat.le_trans (by simp) hb.size) _)
  have hgb : g ≠ w1.heap.size := by omega
  have hbs : w.heap.size + 2 ≤ w1.heap.size := by omega
  have hg2 : w.heap.size + 2 ≤ g := hg1
  generalize w1.alloc (Obj.cells #[.int .i64 n, .int .i64 n, .slice (some ⟨g, 0, none⟩) 0 0] 24) = w2 at *
  clear ho1 hb hg1 hgl
  generalize w1.heap.size = b at *
  go_loopw [5] (fun is wr => ∃ i g cp : Nat, i ≤ N ∧ is = .int .i64 (i : Int) ∧ g ≠ b ∧ w.heap.size + 2 ≤ g ∧ Hid (BoxW wr b n n (.slice (some ⟨g, 0, none⟩) i cp)) ∧ Hid (World.ownsRow wr (w.heap.size + 2) 55 1 (.slice (some ⟨g, 0, none⟩) i cp) i ((List.range i).map fun p => Value.float .f32 (hilbF n p))) ∧ Hid (BoxW wr w.heap.size 0 0 (.slice none 0 0)) ∧ Hid (Below w.heap.size w wr)) (fun is _ => N - (intOf is).toNat)
  case atStart => exact ⟨0, g, 0, Nat.zero_le _, rfl, hgb, hg2, HB1, HO1, HR1, HK1⟩
  case round =>
    clear HO1 HB1 HR1 HK1 hgb hg2
    obtain ⟨i, q, cp, hi, rfl, hgb, hq2, HB, HO, HR, HK⟩ := hrel
    have hw1 := HW.out
    by_cases hlt : i < N
    · obtain ⟨x, hx⟩ : ∃ x, x = i / n := ⟨_, rfl⟩
      obtain ⟨y, hy⟩ : ∃ y, y = i % n := ⟨_, rfl⟩
      have hxn : x < n := by rw [hx]; exact Nat.div_lt_of_lt_mul (by rw [← HN.out]; exact hlt)
      have hyn : y < n := by rw [hy]; exact Nat.mod_lt _ (by omega)
      have HXY : Hid (hilbF n i = hilbW (x + y)) := by show hilbF n i = hilbW (x + y); rw [hx, hy]; rfl
      obtain ⟨q1, q2⟩ := hilb_step (x + y) (by omega)
      have K1 : Hid ((i : Int).tdiv (n : Int) = (x : Int)) := by show (i : Int).tdiv (n : Int) = (x : Int); rw [hx, Int.natCast_ediv]; exact Int.tdiv_eq_ediv_of_nonneg (by omega)
      have K2 : Hid ((i : Int).tmod (n : Int) = (y : Int)) := by show (i : Int).tmod (n : Int) = (y : Int); rw [hy, Int.natCast_emod]; exact Int.tmod_eq_emod_of_nonneg (by omega)
      have K3 : Hid (IntKind.i64.wrap ((x : Int) + (y : Int)) = (x : Int) + (y : Int)) := IntWalk.i64_in _ (by omega)
      have K4 : Hid (IntKind.i64.wrap ((x : Int) + (y : Int) + 1) = (x : Int) + (y : Int) + 1) := IntWalk.i64_in _ (by omega)
      have K5 : Hid (IntKind.i64.wrap (x : Int) = (x : Int)) := IntWalk.i64_in _ (by omega)
      have K6 : Hid (IntKind.i64.wrap (y : Int) = (y : Int)) := IntWalk.i64_in _ (by omega)
      have e1 : (((x + y : Nat) : Int) + 1) = (x : Int) + (y : Int) + 1 := by omega
      rw [e1] at q1 q2
      have q3 : ∀ w : World, w.drewN (Flt.fN .quo .f32 1065353216 (floatOfInt .f32 ((x : Int) + (y : Int) + 1))) = w := fun w => by rw [q2]; rfl
      clear q2
      generalize hilbW (x + y) = z at *
      have hn0 : ¬ n = 0 := by omega
      clear e1 hx hy
      have hbl := HB.out.2.2
      obtain ⟨⟨b0, b1, b2⟩, ⟨bf0, bf1, bf2⟩, -⟩ := HB.out
      have l2 : ((wr.drewN 1).alloc (Obj.cells #[.float .f32 z] 55)).cell? ⟨b, 2, none⟩ = some (.slice (some ⟨q, 0, none⟩) i cp) := (HB.out.below ((Below.refl _ wr).alloc (Nat.le_refl _) (Obj.cells #[.float .f32 z] 55)) hbl).1.2.2
      go_wp2_with fail
      clear hw1
      have k1 := K1.out
      have k2 := K2.out
      have k3 := K3.out
      have k4 := K4.out
      have k5 := K5.out
      have k6 := K6.out
      go_region_law ((refine step_append_lies _ (by rfl) _ _ _ (by rfl) (w.heap.size + 2) 55 i0 _ 1 4 Try.underlying22 hi0 hz0 hz1 hz2 rfl (by omega) (.slice (some ⟨q, 0, none⟩) i cp) i ((List.range i).map fun p => Value.float .f32 (hilbF n p)) (by rfl) ((HO.out.alloc _).drew) ⟨wr.heap.size, 0, none⟩ 1 1 [.float .f32 z] (by rfl) (by rfl) (World.news_of_block (cs := #[.float .f32 z]) (t := 55) (fr := (0, 0)) (heap_alloc_new wr _)) (by simp [Value.oneCell']) (by omega) (by show i + 1 ≤ 9223372036854775807; omega) (by omega) (by have := HK.out.size; simp; omega) (wr.heap.size + 1) (by simp) ?_; intro gg cap wn hown1 hgrow hat hlg; have HBn : Hid _ := (HB.out.below ((Below.refl _ wr).alloc (Nat.le_refl _) (Obj.cells #[.float .f32 z] 55)) hbl).drew.grown hgrow (by simp [Value.ownBlock]; omega); obtain ⟨⟨d0, d1, d2⟩, ⟨df0, df1, df2⟩, -⟩ := HBn.out))
      all_goals (
        have hform := hown1.form (by omega)
        obtain ⟨g9, c9, hv9, hg9, -⟩ := hform
        obtain ⟨rfl, rfl⟩ : gg = g9 ∧ cap = c9 := by simpa using hv9
        have hgb9 : gg ≠ b := by
          rcases hat with h | h
          · simp [Value.ownBlock] at h; omega
          · omega
        have R1 : Hid (BoxW (wn.setCell ⟨b, 2, none⟩ (.slice (some ⟨gg, 0, none⟩) (i + 1) cap)) b n n (.slice (some ⟨gg, 0, none⟩) (i + 1) cap)) := BoxW.put2 HBn.out
        have R2 : Hid (World.ownsRow (wn.setCell ⟨b, 2, none⟩ (.slice (some ⟨gg, 0, none⟩) (i + 1) cap)) (w.heap.size + 2) 55 1 (.slice (some ⟨gg, 0, none⟩) (i + 1) cap) (i + 1) ((List.range (i + 1)).map fun p => Value.float .f32 (hilbF n p))) := by
          have := hown1.kept (grownBy_set wn ⟨b, 2, none⟩ (.slice (some ⟨gg, 0, none⟩) (i + 1) cap)) (.inr (by simp [Value.ownBlock]; omega))
          rw [List.range_succ, List.map_append]
          show World.ownsRow _ _ _ _ _ _ (_ ++ [Value.float .f32 (hilbF n i)])
          rw [HXY.out]
          exact this
        have R3 : Hid (BoxW (wn.setCell ⟨b, 2, none⟩ (.slice (some ⟨gg, 0, none⟩) (i + 1) cap)) w.heap.size 0 0 (.slice none 0 0)) :=
          ((HR.out.below ((Below.refl _ wr).alloc (Nat.le_refl _) (Obj.cells #[.float .f32 z] 55)) HR.out.2.2).drew.grown hgrow (by simp [Value.ownBlock]; omega)).grown (grownBy_set wn ⟨b, 2, none⟩ _) (by simp; omega)
        have R4 : Hid (Below w.heap.size w (wn.setCell ⟨b, 2, none⟩ (.slice (some ⟨gg, 0, none⟩) (i + 1) cap))) :=
          (((HK.out.alloc HK.out.size _).drew).grown hgrow (by have := HK.out.size; simp; omega) (by simp [Value.ownBlock]; omega)).setCell (p := ⟨b, 2, none⟩) (by show w.heap.size ≤ b; omega) _
        clear hown1 hgrow hat hv9 d0 d1 d2 df0 df1 df2 HBn b0 b1 b2 bf0 bf1 bf2 k1 k2 k3 k4 k5 k6 q1 q3
        go_wp2_with fail
        go_roundw
        case rel => exact ⟨i + 1, gg, cap, by omega, by go_num, hgb9, hg9, R1, R2, R3, R4⟩
        case measure => simp [intOf]; omega)
    · have hi0' : 0 < i := by omega
      have HI : Hid (i = N) := show i = N by omega
      have R1 : Hid (FRow wr (.slice (some ⟨q, 0, none⟩) i cp) i ((List.range i).map (hilbF n))) := by
        exact frow_of_own HO.out hi0' (by omega) (hilbF_lt n)
      clear HO
      obtain ⟨⟨c0, c1, c2⟩, -, -⟩ := HB.out
      obtain ⟨⟨r0, r1, r2⟩, ⟨f0, f1, f2⟩, -⟩ := HR.out
      obtain ⟨⟨e0, e1, e2⟩, -, -⟩ := HR.out.put (x' := (n : Int)) (y' := (n : Int)) (s' := .slice (some ⟨q, 0, none⟩) i cp)
      go_wp2_with fail
      (try simp only [Exit.inBlock, Exit.then])
      refine bodyPost_ret (by simp [results, Try.results11, go_sem, e0, e1, e2]; try rfl) rfl ?_
      rw [← HI.out]
      refine ⟨_, rfl, ?_, ((HK.out.setCell (Nat.le_refl _) _).setCell (Nat.le_refl _) _).setCell (Nat.le_refl _) _⟩
      exact FRow.other (FRow.other (FRow.other R1.out (by show w.heap.size ≠ q; omega) _) (by show w.heap.size ≠ q; omega) _) (by show w.heap.size ≠ q; omega) _

end Go.Proofs.Yteblbalciemkiaa
