/- Contracts of the helpers of the laws on numbers chosen by bytes. -/
import Derived.Test.YtdomcjiiilbajaaOpen
import Derived.Test.YtdomcjiiilbajaaExpPlain
import Derived.Test.YtdomcjiiilbajaaMisc
namespace Go.Proofs.Ytdomcjiiilbajaa
open Go.RowKit Opn

theorem narO_cB {b r : Nat} (h : narO b = some r) (w : World) : Flt.cB .f64 .f32 b w = r := by
  unfold narO at h
  unfold Flt.cB
  cases hd : FloatKind.f64.decode b with
  | nan s t => rw [hd] at h; cases h
  | infinity s => rw [hd] at h; cases h
  | number s m e =>
    rw [hd] at h
    simp only at h ⊢
    split at h
    · cases h
    · rename_i hn
      rw [if_neg hn]
      exact Option.some.inj h

theorem mul_any (a b r : Nat) (w : World) (h : floatBits .mul .f64 a b = some r) : Calls Try.prog 32 #[.float .f64 a, .float .f64 b] w fun e w' => e = .returned (.float .f64 r) ∧ ∃ m, w' = w.drewN m := by
  have h1 : ∀ w, Flt.fB .mul .f64 a b w = r := fun w => fB_some h w
  clear h
  go_enter Try.func32, Try.ntmps32
  go_wp2
  go_ret
  exact ⟨rfl, _, rfl⟩

theorem ret_int64 {a b : Int} (h : a = b) : Ending.returned (.int .i64 a) = .returned (.int .i64 b) := by rw [h]

/-- a call hands back a number below N and leaves the world as it was -/
def AtR (N : Nat) (w : World) (e : Ending) (w' : World) : Prop := ∃ c : Nat, c < N ∧ e = .returned (.int .i64 (c : Int)) ∧ w' = w

theorem IRow.formB {w : World} {k : IntKind} {v : Value} {n : Nat} {zs : List Int} (h : IRow k w v n zs) : ∃ ao cap, v = .slice ao n cap := by
  rcases h.2.2.2 with ⟨h0, ao, cap, hv⟩ | ⟨h0, b, off, cap, hv, _⟩
  · exact ⟨ao, cap, by rw [hv, h0]⟩
  · exact ⟨_, cap, hv⟩

theorem at_any (v : Value) (n : Nat) (zs : List Int) (w : World) (i N : Nat) (h : IRow .u8 w v n zs) (hi : i ≤ 1) (hN : 2 ≤ N) (hN2 : N ≤ 256) : Calls Try.prog 16 #[v, .int .i64 i, .int .i64 N] w (AtR N w) := by
  have hN1 : decide ((N : Int) ≤ 1) = false := decide_eq_false (by omega)
  by_cases hin : i < n
  · obtain ⟨hl, hmx, hwf, h4⟩ := h
    rcases h4 with ⟨h0, _⟩ | ⟨h0, b, off, cap, hv, hc, hm, hlt, hcell⟩
    · omega
    · subst hv
      have c1 := hcell i hin
      have hw : (Lit.int .u8 (zs.getD i 0)).wf = true := hwf _ (by simp [List.getD, show i < zs.length by omega])
      obtain ⟨z, hz⟩ : ∃ z, z = zs.getD i 0 := ⟨_, rfl⟩
      rw [← hz] at c1 hw
      have hb : 0 ≤ z ∧ z ≤ 255 := by
        simp [Lit.wf] at hw
        obtain ⟨h1, h2⟩ := hw
        have e1 : IntKind.u8.min = 0 := by decide
        have e2 : IntKind.u8.max = 255 := by decide
        omega
      obtain ⟨hz0, hz1⟩ := hb
      have hd : decide ((i : Int) < (n : Int)) = true := decide_eq_true (by omega)
      have hmx' : n ≤ 9223372036854775807 := hmx
      have HR : Hid (∃ c : Nat, c < N ∧ z % (N : Int) = (c : Int)) := ⟨(z % (N : Int)).toNat, by have := Int.emod_nonneg z (show (N : Int) ≠ 0 by omega); have := Int.emod_lt_of_pos z (show (0 : Int) < (N : Int) by omega); omega, by have := Int.emod_nonneg z (show (N : Int) ≠ 0 by omega); omega⟩
      clear hcell hw hwf hz hl hmx
      go_enter Try.func16, Try.ntmps16
      go_wp2
      go_ret
      obtain ⟨c, hc1, hc2⟩ := HR.out
      exact ⟨c, hc1, ret_int64 hc2, rfl⟩
  · obtain ⟨ao, cap, hv⟩ := IRow.formB h
    subst hv
    have hmx' : n ≤ 9223372036854775807 := h.2.1
    clear h
    have hd : decide ((i : Int) < (n : Int)) = false := decide_eq_false (by omega)
    have HR : Hid (∃ c : Nat, c < N ∧ ((i : Int) * 37 + 11) % (N : Int) = (c : Int)) := ⟨(((i : Int) * 37 + 11) % (N : Int)).toNat, by have := Int.emod_nonneg ((i : Int) * 37 + 11) (show (N : Int) ≠ 0 by omega); have := Int.emod_lt_of_pos ((i : Int) * 37 + 11) (show (0 : Int) < (N : Int) by omega); omega, by have := Int.emod_nonneg ((i : Int) * 37 + 11) (show (N : Int) ≠ 0 by omega); omega⟩
    go_enter Try.func16, Try.ntmps16
    go_wp2
    go_ret
    obtain ⟨c, hc1, hc2⟩ := HR.out
    exact ⟨c, hc1, ret_int64 hc2, rfl⟩

theorem gap_any (a b r : Nat) (w : World) (h : gapO a b = some r) : Calls Try.prog 18 #[.float .f64 a, .float .f64 b] w fun e w' => e = .returned (.float .f64 r) ∧ ∃ m, w' = w.drewN m := by
  unfold gapO at h
  cases hd : (FloatKind.f64.format.order a b == some .lt) with
  | true =>
    rw [hd, if_pos rfl] at h
    have h1 : ∀ w, Flt.fB .sub .f64 b a w = r := fun w => fB_some h w
    clear h
    go_enter Try.func18, Try.ntmps18
    go_wp2
    go_ret
    exact ⟨rfl, _, rfl⟩
  | false =>
    rw [hd, if_neg (by simp)] at h
    have h1 : ∀ w, Flt.fB .sub .f64 a b w = r := fun w => fB_some h w
    clear h
    go_enter Try.func18, Try.ntmps18
    go_wp2
    go_ret
    exact ⟨rfl, _, rfl⟩

theorem long_any (v v' : Value) (n n' : Nat) (zs zs' : List Int) (w : World) (h : IRow .u8 w v n zs) (h' : IRow .u8 w v' n' zs') : Calls Try.prog 15 #[v, v'] w fun e w' => e = .returned (.bool (decide (1048576 < n ∨ 1048576 < n'))) ∧ w' = w := by
  obtain ⟨ao, cap, hv⟩ := IRow.formB h
  obtain ⟨ao', cap', hv'⟩ := IRow.formB h'
  subst hv hv'
  clear h h'
  by_cases h1 : 1048576 < n
  · have hd : decide ((1048576 : Int) < (n : Int)) = true := decide_eq_true (by omega)
    rw [decide_eq_true (Or.inl h1)]
    go_enter Try.func15, Try.ntmps15
    go_wp2
    go_ret
    exact ⟨rfl, rfl⟩
  · have hd : decide ((1048576 : Int) < (n : Int)) = false := decide_eq_false (by omega)
    by_cases h2 : 1048576 < n'
    · have hd' : decide ((1048576 : Int) < (n' : Int)) = true := decide_eq_true (by omega)
      rw [decide_eq_true (Or.inr h2)]
      go_enter Try.func15, Try.ntmps15
      go_wp2
      go_ret
      exact ⟨rfl, rfl⟩
    · have hd' : decide ((1048576 : Int) < (n' : Int)) = false := decide_eq_false (by omega)
      rw [decide_eq_false (fun hh => hh.elim h1 h2)]
      go_enter Try.func15, Try.ntmps15
      go_wp2
      go_ret
      exact ⟨rfl, rfl⟩

end Go.Proofs.Ytdomcjiiilbajaa
