/- Tenths of decibels of 64ths, reckoned in few steps. -/
import Derived.Test.YtdomcjiiilbajaaQuickU
namespace Go.Proofs.Ytdomcjiiilbajaa
open Go.RowKit
open Ieee
open Flt (fop logQ logS logW logV logE hal dbl)

def kC : List Nat := [4585925428558828667, 4586426698778222948, 4587023449039406616, 4587745830934523688, 4588638185040256542, 4589468260265693457, 4590207312512236308, 4591215111030249286, 4592670820000712476, 4594314991293244562, 4596373779694328218, 4599676419421066581, 4607182418800017408]
def eW : List Nat := [13841301370050329071, 13840520955704308401, 13839740541358287731, 13838358599114999915, 13836797770422958575, 13835236941730917235, 13832294170795588079, 13827790571168217583, 0, 4604418534313441775, 4608922133940812271, 4611864904876141427, 4613425733568182767, 4614986562260224107, 4616368504503511923, 4617148918849532593, 4617929333195553263, 4618709747541573933, 4619490161887594603, 4620270576233615273]

theorem kC_all : (List.range 13).all (fun j => oF .quo 4607182418800017408 (floatOfInt .f64 (25 - 2 * (j : Int))) == kC.getD j 0) = true := by decide +kernel
theorem kC_at (j : Nat) (h : j < 13) : oF .quo 4607182418800017408 (floatOfInt .f64 (25 - 2 * (j : Int))) = kC.getD j 0 := by
  have := List.all_eq_true.1 kC_all j (List.mem_range.2 h)
  exact beq_iff_eq.1 this
theorem eW_all : (List.range 20).all (fun j => oF .mul (floatOfInt .f64 ((j : Int) - 8)) 4604418534313441775 == eW.getD j 0) = true := by decide +kernel
theorem eW_at (j : Nat) (h : j < 20) : oF .mul (floatOfInt .f64 ((j : Int) - 8)) 4604418534313441775 = eW.getD j 0 := by
  have := List.all_eq_true.1 eW_all j (List.mem_range.2 h)
  exact beq_iff_eq.1 this

theorem fop_inv {op : BinOp} {u v : Option Nat} {r : Nat} (h : fop op .f64 u v = some r) : ∃ a b, u = some a ∧ v = some b ∧ r = oF op a b := by
  cases u with
  | none => cases h
  | some a =>
    cases v with
    | none => cases h
    | some b =>
      refine ⟨a, b, rfl, rfl, ?_⟩
      have h : floatBits op .f64 a b = some r := h
      unfold oF; rw [h]; rfl

def qF (u : Nat) : Nat → Nat
  | 0 => 0
  | j + 1 => oF .add (kC.getD j 0) (oF .mul u (qF u j))
theorem logQ_qF (u : Nat) : ∀ (j : Nat) (q : Nat), j ≤ 13 → logQ (some u) j = some q → q = qF u j
  | 0, q, _, h => by cases h; rfl
  | j + 1, q, hj, h => by
    obtain ⟨a, b, ha, hb, e⟩ := fop_inv (show fop .add .f64 _ _ = some q from h)
    obtain ⟨a1, a2, ha1, ha2, ea⟩ := fop_inv ha
    obtain ⟨b1, b2, hb1, hb2, eb⟩ := fop_inv hb
    cases ha1; cases ha2; cases hb1
    have := logQ_qF u j b2 (by omega) hb2
    rw [e, ea, eb, this, kC_at j (by omega)]
    rfl

def fqP (u : Nat) : List Nat → Nat → Nat
  | [], q => q
  | c :: cs, q => fy (mulP u q) fun m => fy (addZ c m) fun q' => fqP u cs q'
theorem fqP_eq (u : Nat) : fqP u kC 0 = qF u 13 := by
  unfold kC
  simp only [fqP, fy_eq, mulP_eq, addZ_eq]
  rfl

def lS (x : Nat) : Nat := fy (subF x 4607182418800017408) fun a => fy (addF x 4607182418800017408) fun b => quoF a b
/-- the word of twice the sum -/
def lQ (x : Nat) : Nat := fy (lS x) fun s => fy (mulF s s) fun u => fy (fqP u kC 0) fun q => fy (mulS s q) fun p => mulF 4611686018427387904 p
/-- the word of tenths and a half, before its greatest whole number is taken -/
def lT (l e : Nat) : Nat := fy (addS l e) fun b => fy (mulS b 4631308968768463603) fun c => addS c 4602678819172646912

theorem lT_eq (l e : Nat) : lT l e = oF .add (oF .mul (oF .add l e) 4631308968768463603) 4602678819172646912 := by
  unfold lT
  rw [fy_eq, fy_eq, addS_eq, addS_eq, mulS_eq]
theorem lS_eq (x : Nat) : lS x = oF .quo (oF .sub x 4607182418800017408) (oF .add x 4607182418800017408) := by
  unfold lS
  rw [fy_eq, fy_eq, subF_eq, addF_eq, quoF_eq]
theorem lQ_eq (x : Nat) : lQ x = oF .mul 4611686018427387904 (oF .mul (lS x) (qF (oF .mul (lS x) (lS x)) 13)) := by
  unfold lQ
  rw [fy_eq, fy_eq, fy_eq, fy_eq, mulF_eq, mulF_eq, mulS_eq, fqP_eq]

theorem logS_inv (x s : Nat) (h : logS x = some s) : s = lS x := by
  obtain ⟨a, b, ha, hb, e⟩ := fop_inv (show fop .quo .f64 _ _ = some s from h)
  obtain ⟨a1, a2, ha1, ha2, ea⟩ := fop_inv ha
  obtain ⟨b1, b2, hb1, hb2, eb⟩ := fop_inv hb
  cases ha1; cases ha2; cases hb1; cases hb2
  rw [e, ea, eb, lS_eq]

theorem logW_inv (x r : Nat) (i : Nat) (hi : i < 20) (h : logW x ((i : Int) - 8) = some r) : r = oF .add (lQ x) (eW.getD i 0) := by
  obtain ⟨a, b, ha, hb, e⟩ := fop_inv (show fop .add .f64 _ _ = some r from h)
  obtain ⟨b1, b2, hb1, hb2, eb⟩ := fop_inv hb
  cases hb1; cases hb2
  obtain ⟨a1, a2, ha1, ha2, ea⟩ := fop_inv ha
  cases ha1
  obtain ⟨s, q, hs, hq, ea2⟩ := fop_inv ha2
  have hs' := logS_inv x s hs
  rw [hs] at hq
  cases hu : fop .mul .f64 (some s) (some s) with
  | none =>
    exfalso
    rw [hu] at hq
    cases hq' : (fop .quo .f64 (some 4607182418800017408) (some (floatOfInt .f64 (25 - 2 * ((12 : Nat) : Int))))) with
    | none => have : logQ none 13 = none := by unfold logQ; rw [hq']; rfl
              rw [this] at hq; cases hq
    | some c => have : logQ none 13 = none := by unfold logQ; rw [hq']; rfl
                rw [this] at hq; cases hq
  | some u =>
    rw [hu] at hq
    obtain ⟨u1, u2, hu1, hu2, eu⟩ := fop_inv hu
    cases hu1; cases hu2
    have hq' := logQ_qF u 13 q (by decide) hq
    rw [e, ea, ea2, hq', eu, hs', eb, eW_at i hi, lQ_eq]

theorem tenV_inv (x X t : Nat) (i : Nat) (hi : i < 20) (hE : logE (Flt.W x) = (X, (i : Int) - 8)) (h : tenV x = some t) : t = lT (lQ X) (eW.getD i 0) := by
  obtain ⟨a, b, ha, hb, e⟩ := fop_inv (show fop .add .f64 _ _ = some t from h)
  cases hb
  obtain ⟨a1, a2, ha1, ha2, ea⟩ := fop_inv ha
  cases ha2
  have h1 : logW X ((i : Int) - 8) = some a1 := by
    rw [← ha1]
    unfold logV
    rw [hE]
  have := logW_inv X a1 i hi h1
  rw [e, ea, this, lT_eq]

theorem tenI_lT (x X : Nat) (i : Nat) (hi : i < 20) (h0 : x ≠ 0) (hx : x < 2139095040) (hE : logE (Flt.W x) = (X, (i : Int) - 8)) : tenI x = lI (lT (lQ X) (eW.getD i 0)) := by
  obtain ⟨t, ht, _⟩ := ten_nb x h0 hx
  have := tenV_inv x X t i hi hE ht
  rw [← this]
  show (floatToIntVal .f64 (Flt.flr ((tenV x).getD 0)) .i64).getD 0 = _
  rw [ht]
  rfl

end Go.Proofs.Ytdomcjiiilbajaa
