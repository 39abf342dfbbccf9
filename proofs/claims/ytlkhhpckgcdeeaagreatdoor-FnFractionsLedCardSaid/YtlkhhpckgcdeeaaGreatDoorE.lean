/- Equality of two matrices, of two fractions, as the model reckons it. -/
import Derived.Test.YtlkhhpckgcdeeaaGreatDoorA
namespace Go.Proofs.YtlkhhpckgcdeeaaGreatDoor
open Go.RowKit
set_option linter.unusedVariables false
set_option linter.unusedSimpArgs false
theorem run_part_int {P : Program} (w : World) (e : TypeId) (he : P.underlying e = some (.int .i64)) (cs : Array Value) (i : Nat) (v : Value) (h : cs[i]? = some v) : (part e cs i).run P w = .ok v w := by
  simp [part, isAgg, run_underlying he, h]
theorem run_equalIn_arr4 {P : Program} (w : World) (d : Nat) (t e : TypeId) (ht : P.underlying t = some (.array 4 e)) (he : P.underlying e = some (.int .i64)) (hs : ∀ w, (sizeOf e).run P w = .ok 1 w) (p q r s p' q' r' s' : Int) :
    (Op.equalIn (d + 2) t (.agg #[.int .i64 p, .int .i64 q, .int .i64 r, .int .i64 s]) (.agg #[.int .i64 p', .int .i64 q', .int .i64 r', .int .i64 s'])).run P w = .ok (p == p' && (q == q' && (r == r' && s == s'))) w := by
  rw [Op.equalIn]
  simp only [Sem.run_bind, run_underlying ht, Result.andThen_ok, hs]
  have hr : List.range' 0 ([:4] : Std.Legacy.Range).size = [0, 1, 2, 3] := rfl
  have p0 := fun (w : World) (a b c d : Int) => run_part_int (P := P) w e he #[.int .i64 a, .int .i64 b, .int .i64 c, .int .i64 d] 0 (.int .i64 a) rfl
  have p1 := fun (w : World) (a b c d : Int) => run_part_int (P := P) w e he #[.int .i64 a, .int .i64 b, .int .i64 c, .int .i64 d] 1 (.int .i64 b) rfl
  have p2 := fun (w : World) (a b c d : Int) => run_part_int (P := P) w e he #[.int .i64 a, .int .i64 b, .int .i64 c, .int .i64 d] 2 (.int .i64 c) rfl
  have p3 := fun (w : World) (a b c d : Int) => run_part_int (P := P) w e he #[.int .i64 a, .int .i64 b, .int .i64 c, .int .i64 d] 3 (.int .i64 d) rfl
  have q0 := fun (w : World) (a b : Int) => run_equalIn_int (P := P) w d e .i64 .i64 a b he
  simp only [Std.Legacy.Range.forIn_eq_forIn_range', hr, List.forIn_cons, List.forIn_nil, Sem.run_bind, p0, p1, p2, p3, q0, Result.andThen_ok, Nat.zero_mul, Nat.one_mul, Nat.mul_one]
  cases h0 : p == p' <;> cases h1 : q == q' <;> cases h2 : r == r' <;> cases h3 : s == s' <;> simp [p0, p1, p2, p3, q0, h0, h1, h2, h3]
theorem run_equalIn_arr2 {P : Program} (w : World) (d : Nat) (t e : TypeId) (ht : P.underlying t = some (.array 2 e)) (he : P.underlying e = some (.int .i64)) (hs : ∀ w, (sizeOf e).run P w = .ok 1 w) (p q p' q' : Int) :
    (Op.equalIn (d + 2) t (.agg #[.int .i64 p, .int .i64 q]) (.agg #[.int .i64 p', .int .i64 q'])).run P w = .ok (p == p' && q == q') w := by
  rw [Op.equalIn]
  simp only [Sem.run_bind, run_underlying ht, Result.andThen_ok, hs]
  have hr : List.range' 0 ([:2] : Std.Legacy.Range).size = [0, 1] := rfl
  have p0 := fun (w : World) (a b : Int) => run_part_int (P := P) w e he #[.int .i64 a, .int .i64 b] 0 (.int .i64 a) rfl
  have p1 := fun (w : World) (a b : Int) => run_part_int (P := P) w e he #[.int .i64 a, .int .i64 b] 1 (.int .i64 b) rfl
  have q0 := fun (w : World) (a b : Int) => run_equalIn_int (P := P) w d e .i64 .i64 a b he
  simp only [Std.Legacy.Range.forIn_eq_forIn_range', hr, List.forIn_cons, List.forIn_nil, Sem.run_bind, p0, p1, q0, Result.andThen_ok, Nat.zero_mul, Nat.one_mul, Nat.mul_one]
  cases h0 : p == p' <;> cases h1 : q == q' <;> simp [p0, p1, q0, h0, h1]
theorem run_equalIn_M (p q r s p' q' r' s' : Int) (w : World) : (Op.equalIn 10000 25 (.agg #[.int .i64 p, .int .i64 q, .int .i64 r, .int .i64 s]) (.agg #[.int .i64 p', .int .i64 q', .int .i64 r', .int .i64 s'])).run Tryz.prog w = .ok (p == p' && (q == q' && (r == r' && s == s'))) w :=
  run_equalIn_arr4 w 9998 25 2 Tryz.underlying25 Tryz.underlying2 (fun w => by kernel_rfl) p q r s p' q' r' s'
theorem run_equalIn_Q (p q p' q' : Int) (w : World) : (Op.equalIn 10000 27 (.agg #[.int .i64 p, .int .i64 q]) (.agg #[.int .i64 p', .int .i64 q'])).run Tryz.prog w = .ok (p == p' && q == q') w :=
  run_equalIn_arr2 w 9998 27 2 Tryz.underlying27 Tryz.underlying2 (fun w => by kernel_rfl) p q p' q'
theorem run_min_int4 {P : Program} (w : World) (ts : Array TypeId) (t : TypeId) (k k1 k2 k3 : IntKind) (a b c d : Int) : (Builtin.min_ ts t #[.int k a, .int k1 b, .int k2 c, .int k3 d]).run P w = .ok (.int k (min (min (min a b) c) d)) w := by
  simp [Builtin.min_, Builtin.min2]
  grind
theorem run_max_int4 {P : Program} (w : World) (ts : Array TypeId) (t : TypeId) (k k1 k2 k3 : IntKind) (a b c d : Int) : (Builtin.max_ ts t #[.int k a, .int k1 b, .int k2 c, .int k3 d]).run P w = .ok (.int k (max (max (max a b) c) d)) w := by
  simp [Builtin.max_, Builtin.max2]
  grind
end Go.Proofs.YtlkhhpckgcdeeaaGreatDoor
