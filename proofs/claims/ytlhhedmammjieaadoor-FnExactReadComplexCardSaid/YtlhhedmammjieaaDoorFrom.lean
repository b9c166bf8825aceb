/- The program's reading of eight hexadecimal digits. -/
import Derived.Test.YtlhhedmammjieaaDoorParse2
import Derived.Test.YtlhhedmammjieaaDoorFdig
import Derived.Test.YtlhhedmammjieaaDoorErr
namespace Go.Proofs.YtlhhedmammjieaaDoor
open Go.RowKit

/-- what the library's variables hold, and hold in each later world -/
structure Vars (w : World) : Prop where
  tz : Tz w
  syn : ∃ t p, w.cell? ⟨2, 0, none⟩ = some (.iface t p)
  ran : ∃ t p, w.cell? ⟨3, 0, none⟩ = some (.iface t p)
  maxv : ∃ m, w.cell? ⟨1, 0, none⟩ = some (.int .i64 m)

theorem cell_lt {w : World} {p : Addr} {v : Value} (h : w.cell? p = some v) : p.block < w.heap.size := by
  rcases Nat.lt_or_ge p.block w.heap.size with h' | h'
  · exact h'
  · simp [World.cell?, Array.getElem?_eq_none h'] at h

theorem Vars.on {w w' : World} (h : Vars w) (hb : Below w.heap.size w w') : Vars w' := by
  obtain ⟨h1, ⟨t, p, h2⟩, ⟨t', p', h3⟩, ⟨m, h4⟩⟩ := h
  exact ⟨h1.on hb, ⟨t, p, by rw [hb.cell (cell_lt h2)]; exact h2⟩, ⟨t', p', by rw [hb.cell (cell_lt h3)]; exact h3⟩, ⟨m, by rw [hb.cell (cell_lt h4)]; exact h4⟩⟩

def PV (bs : List UInt8) (e : Ending) : Prop := ∃ (n : Nat) (ev : Value), e = .returned (.tuple #[.int .u64 n, ev]) ∧ (ev = .nilIface ∨ ∃ T N, ev = .iface T (.pointer (some ⟨N, 0, none⟩))) ∧ n < 4294967296 ∧ ∀ m, Good bs m → n = m ∧ ev = .nilIface

theorem parse_public (s : ByteArray) (hmax : s.size ≤ 281474976710656) (w : World) (hV : Vars w) : Calls Tryd.prog 36 #[.string s, .int .i64 16, .int .i64 32] w fun e w' => PV s.data.toList e ∧ Below w.heap.size w w' := by
  obtain ⟨_, ⟨t, p, h2⟩, ⟨t', p', h3⟩, _⟩ := hV
  have H2 := Lib.hid h2
  have H3 := Lib.hid h3
  clear h2 h3
  go_enter Tryd.func36, Tryd.ntmps36
  go_wp2_with (go_at_call 47; refine (parse16 s hmax w).mono ?_; rintro e w1 ⟨⟨n, ev, rfl, hev, hn0, hn1, hG⟩, hb1⟩; have HB := Lib.hid hb1; have HG := Lib.hid hG; have HE := Lib.hid hev; clear hb1 hG hev; refine Hid.out ?_)
  refine Lib.hid ?_
  obtain ⟨n', rfl⟩ : ∃ n' : Nat, n = n' := ⟨n.toNat, by omega⟩
  have q2 : w1.cell? ⟨2, 0, none⟩ = some (.iface t p) := by rw [HB.out.cell (cell_lt H2.out)]; exact H2.out
  have q3 : w1.cell? ⟨3, 0, none⟩ = some (.iface t' p') := by rw [HB.out.cell (cell_lt H3.out)]; exact H3.out
  rcases HE.out with rfl | rfl | rfl
  · clear HE q2 q3
    go_wp2
    go_ret2
    exact ⟨⟨_, _, rfl, .inl rfl, by omega, fun m h => ⟨by have := (HG.out m h).1; omega, rfl⟩⟩, HB.out⟩
  · have HF : Hid (∀ m, Good s.data.toList m → False) := fun m h => by have := (HG.out m h).2; cases this
    clear HE HG
    go_wp2_with (go_at_call 48; refine (Tryd.strconv_toError_bad _ s 16 32 1 (.inl rfl) t t' p p' w1 hmax q2 q3).mono ?_; rintro e w2 ⟨T, N, rfl, hb2⟩; have HB2 := Lib.hid hb2; clear hb2; refine Hid.out ?_)
    refine Lib.hid ?_
    have HB3 : Hid (Below w.heap.size w w2) := HB.out.trans (HB2.out.mono HB.out.size)
    clear q2 q3
    go_wp2
    go_ret2
    exact ⟨⟨_, _, rfl, .inr ⟨_, _, rfl⟩, by omega, fun m h => (HF.out m h).elim⟩, HB3.out⟩
  · have HF : Hid (∀ m, Good s.data.toList m → False) := fun m h => by have := (HG.out m h).2; cases this
    clear HE HG
    go_wp2_with (go_at_call 48; refine (Tryd.strconv_toError_bad _ s 16 32 2 (.inr rfl) t t' p p' w1 hmax q2 q3).mono ?_; rintro e w2 ⟨T, N, rfl, hb2⟩; have HB2 := Lib.hid hb2; clear hb2; refine Hid.out ?_)
    refine Lib.hid ?_
    have HB3 : Hid (Below w.heap.size w w2) := HB.out.trans (HB2.out.mono HB.out.size)
    clear q2 q3
    go_wp2
    go_ret2
    exact ⟨⟨_, _, rfl, .inr ⟨_, _, rfl⟩, by omega, fun m h => (HF.out m h).elim⟩, HB3.out⟩

/-- a number and whether there is one, as results -/
def fltOk (p : Nat × Bool) : Value := .tuple #[.float .f32 p.1, .bool p.2]

theorem str_ne (l : List UInt8) (s : ByteArray) (h : l ≠ s.data.toList) : ((⟨l.toArray⟩ : ByteArray).toList == s.toList) = false := by
  rw [beq_eq_false_iff_ne, ByteArray.toList_eq, ByteArray.toList_eq]
  exact h

theorem from_impl (s : ByteArray) (hmax : s.size ≤ 281474976710656) (w : World) (hV : Vars w) : Calls Tryd.prog 26 #[.string s] w fun e w' => e = .returned (fltOk (fdig s.data.toList)) ∧ Below w.heap.size w w' := by
  have hp := parse_public s hmax w hV
  have HD : Hid (∀ n w', n < 4294967296 → Below w.heap.size w w' → Calls Tryd.prog 30 #[.float .f32 n] w' fun e w'' => e = .returned (.string ⟨(hex8 n).toArray⟩) ∧ Below w'.heap.size w' w'') := fun n w' hn hb => digits_impl n w' hn (hV.tz.on hb)
  clear hV
  go_enter Tryd.func26, Tryd.ntmps26
  go_wp2_with (go_at_call 36; refine hp.mono ?_; rintro e w1 ⟨⟨n, ev, rfl, hev, hn, hG⟩, hb1⟩; have HB := Lib.hid hb1; have HG := Lib.hid hG; have HE := Lib.hid hev; clear hb1 hG hev; refine Hid.out ?_)
  refine Lib.hid ?_
  clear hp
  rcases HE.out with rfl | ⟨T, N, rfl⟩
  · have HF := Lib.hid (fdig_num (t := s.data.toList) hn (fun m h => (HG.out m h).1))
    clear HE HG
    by_cases hx : hex8 n = s.data.toList
    · have HR : Hid (fdig s.data.toList = (n, true)) := by show _ = _; rw [HF.out, if_pos hx]
      have e1 : (⟨(hex8 n).toArray⟩ : ByteArray) = s := by rw [hx]
      clear HF hx
      go_wp2_with (go_at_call 30; refine (HD.out n _ hn HB.out).mono ?_; rintro e w2 ⟨rfl, hb2⟩; rw [e1]; have HB2 := Lib.hid hb2; clear hb2; refine Hid.out ?_)
      refine Lib.hid ?_
      have HB3 : Hid (Below w.heap.size w w2) := HB.out.trans (HB2.out.mono HB.out.size)
      clear e1
      go_wp2
      go_ret2
      exact ⟨by rw [HR.out]; rfl, HB3.out⟩
    · have HR : Hid (fdig s.data.toList = (0, false)) := by show _ = _; rw [HF.out, if_neg hx]
      have e1 := str_ne _ s hx
      clear HF hx
      go_wp2_with (go_at_call 30; refine (HD.out n _ hn HB.out).mono ?_; rintro e w2 ⟨rfl, hb2⟩; have HB2 := Lib.hid hb2; clear hb2; refine Hid.out ?_)
      refine Lib.hid ?_
      have HB3 : Hid (Below w.heap.size w w2) := HB.out.trans (HB2.out.mono HB.out.size)
      generalize (⟨(hex8 n).toArray⟩ : ByteArray) = y at *
      go_wp2
      go_ret2
      exact ⟨by rw [HR.out]; rfl, HB3.out⟩
  · have HR : Hid (fdig s.data.toList = (0, false)) := fdig_err (fun m h => by have := (HG.out m h).2; cases this)
    clear HE HG HD
    go_wp2
    go_ret2
    exact ⟨by rw [HR.out]; rfl, HB.out⟩

end Go.Proofs.YtlhhedmammjieaaDoor
