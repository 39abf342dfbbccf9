/- Small facts on cells behind a new block, behind a store elsewhere. -/
import Derived.Test.YtlkhhpckgcdeeaaGreatDoorB
namespace Go.Proofs.YtlkhhpckgcdeeaaGreatDoor
open Go.RowKit
theorem keep_alloc {w : World} {o o' : Obj} {a : Addr} {v : Value} (h : (w.alloc o).cell? a = some v) (hb : a.block < w.heap.size) : (w.alloc o').cell? a = some v := by
  rw [World.cell?_alloc_lt _ _ _ hb] at h ⊢; exact h
theorem keep_new {w : World} {o : Obj} {a : Addr} {v : Value} (h : w.cell? a = some v) : (w.alloc o).cell? a = some v := by
  rw [World.cell?_alloc_lt _ _ _ (World.block_lt_of_cell? w a h)]; exact h
theorem keep_set {w : World} {p a : Addr} {u v : Value} (h : w.cell? a = some v) (hb : a.block ≠ p.block) : (w.setCell p u).cell? a = some v := by
  rw [World.cell?_of_block (Below.heap_setCell w p u a.block hb)]; exact h
end Go.Proofs.YtlkhhpckgcdeeaaGreatDoor
