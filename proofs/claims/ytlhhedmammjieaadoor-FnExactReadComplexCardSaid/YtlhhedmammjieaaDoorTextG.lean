/- The text of a list of numbers: the reference's. -/
import Derived.Test.YtlhhedmammjieaaDoorHexSpec
import Derived.Lib.Join
import Derived.WideShapes
import Derived.Lib.Hide
namespace Go.Proofs.YtlhhedmammjieaaDoor
open Go.RowKit Opn

def none4 : List UInt8 := [110, 111, 110, 101]
def ltext (zs : List Nat) : List UInt8 := if zs = [] then none4 else Lib.join (zs.map hex8) [44]

theorem join_snoc (xs : List (List UInt8)) (x sep : List UInt8) (h : xs ≠ []) : Lib.join (xs ++ [x]) sep = Lib.join xs sep ++ (sep ++ x) := by
  cases xs with
  | nil => exact absurd rfl h
  | cons a r =>
    rw [List.cons_append, Lib.join_cons, Lib.join_cons]
    unfold Lib.joinTail
    simp

theorem text_next {zs : List Nat} {k : Nat} (hk : k < zs.length) (h0 : 0 < k) : Lib.join ((zs.take (k + 1)).map hex8) [44] = Lib.join ((zs.take k).map hex8) [44] ++ ([44] ++ hex8 (zs.getD k 0)) := by
  rw [List.take_succ_eq_append_getElem hk, List.map_append, List.map_singleton, join_snoc]
  · simp [List.getD, hk]
  · intro h
    have := congrArg List.length h
    rw [List.length_map, List.length_take] at this
    simp at this
    rcases this with h | h
    · omega
    · subst h; simp at hk

/-- the text of the first k numbers -/
def jtext (zs : List Nat) (k : Nat) : List UInt8 := Lib.join ((zs.take k).map hex8) [44]

theorem jtext_one {zs : List Nat} (h : 0 < zs.length) : jtext zs 1 = hex8 (zs.getD 0 0) := by
  unfold jtext
  rw [show zs.take 1 = [zs.getD 0 0] by
    cases zs with
    | nil => simp at h
    | cons a r => simp]
  exact Lib.join_one _ _

theorem jtext_len {zs : List Nat} (hin : ∀ i, i < zs.length → (hex8 (zs.getD i 0)).length ≤ 17) : ∀ k, k ≤ zs.length → (jtext zs k).length ≤ 18 * k
  | 0, _ => by unfold jtext; simp [Lib.join_nil]
  | k + 1, hk => by
    by_cases h0 : k = 0
    · subst h0
      rw [jtext_one (by omega)]
      have := hin 0 (by omega)
      omega
    · have h1 := jtext_len hin k (by omega)
      have h2 := hin k (by omega)
      have h3 : jtext zs (k + 1) = jtext zs k ++ ([44] ++ hex8 (zs.getD k 0)) := text_next (by omega) (by omega)
      rw [h3]
      simp only [List.length_append, List.length_cons, List.length_nil]
      omega

set_option maxRecDepth 20000 in
set_option maxHeartbeats 2000000 in
theorem text_spec (v : Value) (n : Nat) (zs : List Nat) (w : World) (h : FRow w v n zs) (hn : n ≤ 256) : Calls Tryd.prog 20 #[v] w fun e w' => e = .returned (.string ⟨(ltext zs).toArray⟩) ∧ Below w.heap.size w w' := by
  obtain ⟨h1, h2, h3, h4⟩ := h
  have hz : ∀ k, k < n → zs.getD k 0 < 4294967296 := fun k hk => by
    have hm : zs.getD k 0 ∈ zs := by
      have : zs.getD k 0 = zs[k]'(by omega) := by simp [List.getD, show k < zs.length by omega]
      rw [this]; exact List.getElem_mem _
    exact h3 _ hm
  clear h3
  rcases h4 with ⟨h0, ao, cap, hv⟩ | ⟨h0, b, off, cap, hv, hc, hm, hlt, hcell⟩
  · subst hv
    have hz : zs = [] := List.eq_nil_of_length_eq_zero (by omega)
    subst hz h0
    have ht : ltext [] = none4 := rfl
    rw [ht]
    go_enter Tryd.func20, Tryd.ntmps20
    go_wp2
    go_ret
    exact ⟨rfl, Below.refl _ _⟩
  · subst hv
    have ht : ltext zs = Lib.join (zs.map hex8) [44] := by
      unfold ltext; rw [if_neg]; intro h; rw [h] at h1; simp at h1; omega
    rw [ht]
    have c0 : w.cell? ⟨b, off, none⟩ = some (.float .f32 (zs.getD 0 0)) := hcell 0 h0
    have z00 := hz 0 h0
    obtain ⟨y, hy⟩ : ∃ y, y = zs.getD 0 0 := ⟨_, rfl⟩
    rw [← hy] at c0 z00
    have H1 : Hid (jtext zs 1 = hex8 y) := by
      show _ = _
      rw [hy]; exact jtext_one (by omega)
    have HL : Hid (∀ k, k ≤ n → (jtext zs k).length ≤ 18 * k) := fun k hk => jtext_len (fun i _ => by rw [hex8_length]; omega) k (by omega)
    have HN : Hid (∀ k, k < n → 0 < k → jtext zs (k + 1) = jtext zs k ++ ([44] ++ hex8 (zs.getD k 0))) := fun k hk h0 => text_next (by omega) h0
    have HT : Hid (jtext zs n = Lib.join (zs.map hex8) [44]) := by
      show _ = _
      unfold jtext; rw [List.take_of_length_le (by omega)]
    have HC : Hid (∀ i, i < n → w.cell? ⟨b, off + i, none⟩ = some (.float .f32 (zs.getD i 0))) := hcell
    have HZ : Hid (∀ k, k < n → zs.getD k 0 < 4294967296) := hz
    clear hcell hz h1 ht hy
    go_enter Tryd.func20, Tryd.ntmps20
    go_wp2_with (go_at_call 29; refine (hex_spec y _ z00).mono ?_; rintro e w1 ⟨rfl, hb1⟩; have HB := Lib.hid hb1; clear hb1; refine Hid.out ?_)
    refine Lib.hid ?_
    go_wp2
    go_loopw [3, 4] (fun out is wr => ∃ k : Nat, 1 ≤ k ∧ k ≤ n ∧ is = .int .i64 k ∧ out = .string ⟨(jtext zs k).toArray⟩ ∧ Hid (Below w.heap.size w wr)) (fun _ is _ => n - (intOf is).toNat)
    case atStart => exact ⟨1, Nat.le_refl _, h0, rfl, by rw [H1.out], HB⟩
    case round =>
      obtain ⟨k, hk1, hk, rfl, rfl, HK⟩ := hrel
      by_cases hlt' : k < n
      · have g1 : wr.cell? ⟨b, off + k, none⟩ = some (.float .f32 (zs.getD k 0)) := by
          rw [HK.out.cell (p := ⟨b, off + k, none⟩) hlt]; exact HC.out k hlt'
        have z0 := HZ.out k hlt'
        have HS := Lib.hid (HN.out k hlt' hk1)
        have hbs := HK.out.size
        have hl1 := HL.out k (by omega)
        have hl2 := hex8_length (zs.getD k 0)
        generalize zs.getD k 0 = z at *
        go_wp2_with (go_at_call 29; refine (hex_spec z _ z0).mono ?_; rintro e w2 ⟨rfl, hb2⟩; have HB2 := Lib.hid hb2; clear hb2; refine Hid.out ?_)
        refine Lib.hid ?_
        have HK2 : Hid (Below w.heap.size w w2) := HK.out.trans (HB2.out.mono hbs)
        have HCAT : Hid ((⟨(jtext zs k).toArray⟩ : ByteArray) ++ (⟨([44] : List UInt8).toArray⟩ ++ ⟨(hex8 z).toArray⟩) = ⟨(jtext zs (k + 1)).toArray⟩) := by
          show _ = _
          rw [bytes_append, bytes_append, HS.out]
        go_wp2
        go_roundw
        case rel => exact ⟨k + 1, by omega, by omega, by go_num, by rw [← HCAT.out], HK2⟩
        case measure => simp [intOf]; omega
      · obtain rfl : k = n := by omega
        rw [HT.out]
        go_wp2
        go_ret
        exact ⟨rfl, HK.out⟩

end Go.Proofs.YtlhhedmammjieaaDoor
