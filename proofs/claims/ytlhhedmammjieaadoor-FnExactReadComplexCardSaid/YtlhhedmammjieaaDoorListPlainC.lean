/- The complex numbers of a text: the state of both readers' loops. -/
import Derived.Test.YtlhhedmammjieaaDoorCDig
import Derived.Test.YtlhhedmammjieaaDoorCMark
namespace Go.Proofs.YtlhhedmammjieaaDoor
open Go.RowKit Opn

def okC (x : ByteArray) : Bool := decide (x.size = 16) && (fdig (x.extract 0 8).data.toList).2 && (fdig (x.extract 8 16).data.toList).2
def valC (x : ByteArray) : Nat × Nat := ((fdig (x.extract 0 8).data.toList).1, (fdig (x.extract 8 16).data.toList).1)
def collectC (xs : List ByteArray) : Option (List (Nat × Nat)) := if xs.length ≤ 256 ∧ xs.all okC = true then some (xs.map valC) else none
def rlistC (s : ByteArray) : Option (List (Nat × Nat)) := if s.data.toList = none4 then some [] else collectC (sp s)

theorem collectC_long {xs : List ByteArray} (h : 256 < xs.length) : collectC xs = none := by
  unfold collectC; rw [if_neg (fun h' => by omega)]
theorem collectC_bad {xs : List ByteArray} {k : Nat} {x : ByteArray} (hx : xs[k]? = some x) (h : okC x = false) : collectC xs = none := by
  unfold collectC
  rw [if_neg]
  rintro ⟨_, h'⟩
  have := List.all_eq_true.1 h' x (List.mem_of_getElem? hx)
  rw [h] at this
  cases this
theorem collectC_all {xs : List ByteArray} (h : xs.length ≤ 256) (ha : ∀ x ∈ xs.take xs.length, okC x = true) : collectC xs = some ((xs.take xs.length).map valC) := by
  unfold collectC
  rw [List.take_length] at ha ⊢
  rw [if_pos ⟨h, List.all_eq_true.2 ha⟩]
theorem rlistC_len {s : ByteArray} {zs : List (Nat × Nat)} (h : rlistC s = some zs) : zs.length ≤ 256 := by
  unfold rlistC at h
  split at h
  · obtain rfl := Option.some.inj h
    simp
  · unfold collectC at h
    split at h
    · rename_i h'
      obtain rfl := Option.some.inj h
      simpa using h'.1
    · cases h

def ListResC (B : Nat) (w' : World) (r : Option (List (Nat × Nat))) (v : Value) : Prop :=
  match r with
  | none => v = .tuple #[.slice none 0 0, .bool false]
  | some zs => ∃ g cp, v = .tuple #[.slice (some ⟨g, 0, none⟩) zs.length cp, .bool true] ∧ B ≤ g ∧ COwn w' g zs.length zs ∧ zs.length ≤ cp ∧ cp ≤ maxLen

structure LSC (w wr : World) (xs : List ByteArray) (gp g cp k : Nat) : Prop where
  own : wr.ownsRow w.heap.size 46 1 (.slice (some ⟨g, 0, none⟩) k cp) k (((xs.take k).map valC).map fun z => Value.complex .f32 z.1 z.2)
  cells : ∀ j x, xs[j]? = some x → wr.cell? ⟨gp, j, none⟩ = some (.string x)
  lt : gp < wr.heap.size
  ne : g ≠ gp
  oks : ∀ x ∈ xs.take k, okC x = true
  below : Below w.heap.size w wr

theorem LSC.on {w wr w2 : World} {xs : List ByteArray} {gp g cp k : Nat} (h : LSC w wr xs gp g cp k) (hb : Below wr.heap.size wr w2) : LSC w w2 xs gp g cp k :=
  ⟨owns_belowG h.own hb, fun j x hx => by rw [hb.cell (p := ⟨gp, j, none⟩) h.lt]; exact h.cells j x hx, Nat.lt_of_lt_of_le h.lt hb.size, h.ne, h.oks, h.below.trans (hb.mono h.below.size)⟩

theorem LSC.glt {w wr : World} {xs : List ByteArray} {gp g cp k : Nat} (h : LSC w wr xs gp g cp k) : w.heap.size ≤ g ∧ g < wr.heap.size := h.own.lt g rfl

theorem LSC.next {w w2 wn : World} {xs : List ByteArray} {gp g cp k gg cap : Nat} {x : ByteArray} {o : Obj} (h : LSC w w2 xs gp g cp k) (hx : xs[k]? = some x) (hok : okC x = true)
    (hown : wn.ownsRow w.heap.size 46 1 (.slice (some ⟨gg, 0, none⟩) (k + 1) cap) (k + 1) ((((xs.take k).map valC).map fun z => Value.complex .f32 z.1 z.2) ++ [Value.complex .f32 (valC x).1 (valC x).2]))
    (hgrow : (w2.alloc o).grownBy wn (some g)) (hat : some g = some gg ∨ gg = (w2.alloc o).heap.size) : LSC w wn xs gp gg cap (k + 1) := by
  have hlt := h.lt
  have hsz : (w2.alloc o).heap.size = w2.heap.size + 1 := Array.size_push ..
  refine ⟨?_, fun j y hy => ?_, ?_, ?_, fun y hy => ?_, ?_⟩
  · rw [take_next hx, List.map_append, List.map_append]; exact hown
  · rw [grown_cell hgrow (by rw [hsz]; show gp < _; omega) (fun e => h.ne e.symm)]
    rw [((Below.refl w2.heap.size w2).alloc (Nat.le_refl _) o).cell (p := ⟨gp, j, none⟩) hlt]
    exact h.cells j y hy
  · have := hgrow.size; omega
  · rcases hat with e | e
    · obtain rfl := Option.some.inj e; exact h.ne
    · omega
  · rw [take_next hx] at hy
    rcases List.mem_append.1 hy with hy | hy
    · exact h.oks y hy
    · obtain rfl := List.mem_singleton.1 hy; exact hok
  · exact (h.below.alloc h.below.size o).grown hgrow (by rw [hsz]; have := h.below.size; omega) (by intro k hk; obtain rfl := Option.some.inj hk; exact h.glt.1)

theorem LSC.res {w wr : World} {xs : List ByteArray} {gp g cp : Nat} (h : LSC w wr xs gp g cp xs.length) (h64 : xs.length ≤ 256) : ListResC w.heap.size wr (collectC xs) (.tuple #[.slice (some ⟨g, 0, none⟩) xs.length cp, .bool true]) := by
  rw [collectC_all h64 h.oks]
  obtain ⟨h1, h2, h3⟩ := COwn.of_owns h.own
  have e : ((xs.take xs.length).map valC).length = xs.length := by simp
  refine ⟨g, cp, by rw [e], h.glt.1, by rw [e]; exact h1, by rw [e]; exact h2, h3⟩

theorem okC_size {x : ByteArray} (h : x.size ≠ 16) : okC x = false := by
  unfold okC; rw [decide_eq_false h]; rfl
theorem okC_of {x : ByteArray} (h : x.size = 16) {v u : Nat} {b c : Bool} (h1 : fdig (x.extract 0 8).data.toList = (v, b)) (h2 : fdig (x.extract 8 16).data.toList = (u, c)) : okC x = (b && c) ∧ valC x = (v, u) := by
  unfold okC valC
  rw [decide_eq_true h, h1, h2]
  exact ⟨by simp, rfl⟩

theorem info_c64 : (Tryd.prog.info? 46).map (fun i => (i.zero, i.size, i.bytes)) = some (some (.complex .f32 0 0), 1, 8) := by kernel_rfl

theorem resC_empty (w : World) (s : ByteArray) (h : s.data.toList = none4) : ListResC w.heap.size (w.alloc (.cells #[] 46)) (rlistC s) (.tuple #[.slice (some ⟨w.heap.size, 0, none⟩) 0 0, .bool true]) := by
  unfold rlistC
  rw [if_pos h]
  exact ⟨w.heap.size, 0, rfl, Nat.le_refl _, ⟨rfl, by show _ < (w.heap.push _).size; rw [Array.size_push]; omega, fun i hi => by simp at hi⟩, Nat.le_refl _, by decide⟩

end Go.Proofs.YtlhhedmammjieaaDoor
