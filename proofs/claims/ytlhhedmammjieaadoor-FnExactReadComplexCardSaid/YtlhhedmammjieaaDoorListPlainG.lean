/- The numbers of a text of numbers: the state of both readers' loops. -/
import Derived.Test.YtlhhedmammjieaaDoorFrom
import Derived.Test.YtlhhedmammjieaaDoorCutPlain
import Derived.Test.YtlhhedmammjieaaDoorApp2
import Derived.Test.YtlhhedmammjieaaDoorFMark
import Derived.Lib.SplitLaws
import Derived.Test.YtlhhedmammjieaaDoorTextG2
namespace Go.Proofs.YtlhhedmammjieaaDoor
open Go.RowKit Opn

def okOf (x : ByteArray) : Bool := (fdig x.data.toList).2
def valOf (x : ByteArray) : Nat := (fdig x.data.toList).1
/-- the numbers that texts spell, if each spells one and they are few -/
def collect (xs : List ByteArray) : Option (List Nat) := if xs.length ≤ 256 ∧ xs.all okOf = true then some (xs.map valOf) else none
def rlist (s : ByteArray) : Option (List Nat) := if s.data.toList = none4 then some [] else collect (sp s)

theorem collect_long {xs : List ByteArray} (h : 256 < xs.length) : collect xs = none := by
  unfold collect; rw [if_neg (fun h' => by omega)]
theorem collect_bad {xs : List ByteArray} {k : Nat} {x : ByteArray} (hx : xs[k]? = some x) (h : okOf x = false) : collect xs = none := by
  unfold collect
  rw [if_neg]
  rintro ⟨_, h'⟩
  have := List.all_eq_true.1 h' x (List.mem_of_getElem? hx)
  rw [h] at this
  cases this
theorem collect_all {xs : List ByteArray} (h : xs.length ≤ 256) (ha : ∀ x ∈ xs.take xs.length, okOf x = true) : collect xs = some ((xs.take xs.length).map valOf) := by
  unfold collect
  rw [List.take_length] at ha ⊢
  rw [if_pos ⟨h, List.all_eq_true.2 ha⟩]

theorem valOf_lt (x : ByteArray) : valOf x < 4294967296 := fdig_lt _
theorem rlist_wf {s : ByteArray} {zs : List Nat} (h : rlist s = some zs) : zs.length ≤ 256 ∧ ∀ z ∈ zs, z < 4294967296 := by
  unfold rlist at h
  split at h
  · obtain rfl := Option.some.inj h
    exact ⟨by simp, fun z hz => by cases hz⟩
  · unfold collect at h
    split at h
    · rename_i h'
      obtain rfl := Option.some.inj h
      refine ⟨by simpa using h'.1, fun z hz => ?_⟩
      obtain ⟨x, _, rfl⟩ := List.mem_map.1 hz
      exact valOf_lt x
    · cases h

theorem splitB_sizes : ∀ (k : Nat) (s : ByteArray), ∀ x ∈ Lib.splitB comma 0 k s, x.size ≤ s.size
  | 0, s, x, hx => by
    obtain rfl := List.mem_singleton.1 hx
    exact Nat.le_refl _
  | k + 1, s, x, hx => by
    unfold Lib.splitB at hx
    split at hx
    · obtain rfl := List.mem_singleton.1 hx
      exact Nat.le_refl _
    · rcases List.mem_cons.1 hx with rfl | hx
      · rw [ByteArray.size_extract]; omega
      · have := splitB_sizes k _ x hx
        rw [ByteArray.size_extract] at this
        omega
theorem sp_sizes (s : ByteArray) : ∀ x ∈ sp s, x.size ≤ s.size := splitB_sizes _ s
theorem sp_length (s : ByteArray) : (sp s).length = Lib.countB s comma + 1 := Lib.splitB_all comma (by decide) 0 _ s rfl

/-- a list of numbers, or none, as two results -/
def ListRes (B : Nat) (w' : World) (r : Option (List Nat)) (v : Value) : Prop :=
  match r with
  | none => v = .tuple #[.slice none 0 0, .bool false]
  | some zs => ∃ g cp, v = .tuple #[.slice (some ⟨g, 0, none⟩) zs.length cp, .bool true] ∧ B ≤ g ∧ FOwn w' g zs.length zs ∧ zs.length ≤ cp ∧ cp ≤ maxLen

/-- the state of a reader's loop at k: the first k texts are read into the row g -/
structure LS (w wr : World) (xs : List ByteArray) (gp g cp k : Nat) : Prop where
  own : wr.ownsRow w.heap.size 38 1 (.slice (some ⟨g, 0, none⟩) k cp) k (((xs.take k).map valOf).map (Value.float .f32))
  cells : ∀ j x, xs[j]? = some x → wr.cell? ⟨gp, j, none⟩ = some (.string x)
  lt : gp < wr.heap.size
  ne : g ≠ gp
  oks : ∀ x ∈ xs.take k, okOf x = true
  below : Below w.heap.size w wr

theorem LS.on {w wr w2 : World} {xs : List ByteArray} {gp g cp k : Nat} (h : LS w wr xs gp g cp k) (hb : Below wr.heap.size wr w2) : LS w w2 xs gp g cp k :=
  ⟨owns_belowG h.own hb, fun j x hx => by rw [hb.cell (p := ⟨gp, j, none⟩) h.lt]; exact h.cells j x hx, Nat.lt_of_lt_of_le h.lt hb.size, h.ne, h.oks, h.below.trans (hb.mono h.below.size)⟩

theorem LS.glt {w wr : World} {xs : List ByteArray} {gp g cp k : Nat} (h : LS w wr xs gp g cp k) : w.heap.size ≤ g ∧ g < wr.heap.size := h.own.lt g rfl

theorem take_next {xs : List ByteArray} {k : Nat} {x : ByteArray} (hx : xs[k]? = some x) : xs.take (k + 1) = xs.take k ++ [x] := by
  rw [List.take_add_one, hx]; rfl

theorem LS.next {w w2 wn : World} {xs : List ByteArray} {gp g cp k gg cap : Nat} {x : ByteArray} {o : Obj} (h : LS w w2 xs gp g cp k) (hx : xs[k]? = some x) (hok : okOf x = true)
    (hown : wn.ownsRow w.heap.size 38 1 (.slice (some ⟨gg, 0, none⟩) (k + 1) cap) (k + 1) (((xs.take k).map valOf).map (Value.float .f32) ++ [Value.float .f32 (valOf x)]))
    (hgrow : (w2.alloc o).grownBy wn (some g)) (hat : some g = some gg ∨ gg = (w2.alloc o).heap.size) : LS w wn xs gp gg cap (k + 1) := by
  have hlt := h.lt
  have hsz : (w2.alloc o).heap.size = w2.heap.size + 1 := Array.size_push ..
  refine ⟨?_, fun j y hy => ?_, ?_, ?_, fun y hy => ?_, ?_⟩
  · rw [take_next hx, List.map_append, List.map_append]; exact hown
  · rw [grown_cell hgrow (by rw [hsz]; show gp < _; omega) (fun e => h.ne e.symm)]
    rw [((Below.refl w2.heap.size w2).alloc (Nat.le_refl _) o).cell (p := ⟨gp, j, none⟩) hlt]
    exact h.cells j y hy
  · have := hgrow.size; omega
  · rcases hat with e | e
    · obtain rfl := Option.some.inj e; exact h.ne
    · omega
  · rw [take_next hx] at hy
    rcases List.mem_append.1 hy with hy | hy
    · exact h.oks y hy
    · obtain rfl := List.mem_singleton.1 hy; exact hok
  · exact (h.below.alloc h.below.size o).grown hgrow (by rw [hsz]; have := h.below.size; omega) (by intro k hk; obtain rfl := Option.some.inj hk; exact h.glt.1)

theorem LS.res {w wr : World} {xs : List ByteArray} {gp g cp : Nat} (h : LS w wr xs gp g cp xs.length) (h64 : xs.length ≤ 256) : ListRes w.heap.size wr (collect xs) (.tuple #[.slice (some ⟨g, 0, none⟩) xs.length cp, .bool true]) := by
  rw [collect_all h64 h.oks]
  obtain ⟨h1, h2, h3⟩ := FOwn.of_owns h.own
  have e : ((xs.take xs.length).map valOf).length = xs.length := by simp
  refine ⟨g, cp, by rw [e], h.glt.1, by rw [e]; exact h1, by rw [e]; exact h2, h3⟩

end Go.Proofs.YtlhhedmammjieaaDoor
