/- The contract of the store of one number into a matrix of the program. -/
import Derived.Test.YteblbalciemkiaaNew
namespace Go.Proofs.Yteblbalciemkiaa
open Go.RowKit Opn

theorem But.of' {g : Nat} {w w1 w2 : World} (k : Only g w w1) (h : Below w1.heap.size w1 w2) : But g w w2 :=
  ⟨h.os.trans k.os, h.tape.trans k.tape, h.output.trans k.output, by rw [← k.size]; exact h.size, fun b hb hg => (h.block b (by rw [k.size]; exact hb)).trans (k.block b hg)⟩

set_option maxRecDepth 100000 in
set_option maxHeartbeats 1000000 in
theorem set_any (x y i j : Int) (g n k p : Nat) (zs : List Nat) (z : Nat) (w : World) (h : FOwn w g n zs) (hp : i * y = (p : Int)) (hk : (p : Int) + j = (k : Int)) (hlt : k < n) (hn : n ≤ 1048576) (hp2 : p ≤ 1048576) : Calls Try.prog 71 #[.agg #[.int .i64 x, .int .i64 y, .slice (some ⟨g, 0, none⟩) n n], .int .i64 i, .int .i64 j, .float .f32 z] w fun e w' => (∃ v, e = .returned v) ∧ FOwn w' g n (zs.set k z) ∧ But g w w' := by
  have hg := h.2.1
  have hA : Below w.heap.size w (w.alloc (.cells #[.int .i64 x, .int .i64 y, .slice (some ⟨g, 0, none⟩) n n] 24)) := (Below.refl _ _).alloc (Nat.le_refl _) _
  have HO := h.below hA hg
  have c1 : (w.alloc (.cells #[.int .i64 x, .int .i64 y, .slice (some ⟨g, 0, none⟩) n n] 24)).cell? ⟨g, k, none⟩ = some (.float .f32 (zs.getD k 0)) := HO.cell hlt
  have c2 : (w.alloc (.cells #[.int .i64 x, .int .i64 y, .slice (some ⟨g, 0, none⟩) n n] 24)).frozen? ⟨g, k, none⟩ = false := HO.free hlt
  have c3 := h.cell hlt
  have c4 := h.free hlt
  have hw1 : wrap64 (i * y) = (p : Int) := by rw [hp]; unfold wrap64; omega
  have hw2 : wrap64 ((p : Int) + j) = (k : Int) := by rw [hk]; unfold wrap64; omega
  have HR : Hid (FOwn ((w.setCell ⟨g, k, none⟩ (.float .f32 z)).alloc (.cells #[.int .i64 x, .int .i64 y, .slice (some ⟨g, 0, none⟩) n n] 24)) g n (zs.set k z)) := (h.set hlt z).below ((Below.refl _ _).alloc (Nat.le_refl _) _) (h.set hlt z).2.1
  have HX : Hid (But g w ((w.setCell ⟨g, k, none⟩ (.float .f32 z)).alloc (.cells #[.int .i64 x, .int .i64 y, .slice (some ⟨g, 0, none⟩) n n] 24))) := But.of' ((Only.refl g w).setCell rfl _) ((Below.refl _ _).alloc (Nat.le_refl _) _)
  clear h hA HO
  go_enter Try.func71, Try.ntmps71
  go_wp2_with fail
  go_returns
  exact ⟨⟨_, rfl⟩, HR.out, HX.out⟩

end Go.Proofs.Yteblbalciemkiaa
