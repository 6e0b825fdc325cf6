/- The types of this program, as the rules want them. -/
import Derived.Test.YtakmopiceopcpaaChecked
import Derived.Test.YtakmopiceopcpaaFloat
import Derived.Test.YtakmopiceopcpaaMaps
section
namespace Go.Proofs.Ytakmopiceopcpaa
theorem prog_mixed : Try.prog.follows .mixedOrders = true := by kernel_rfl
instance : MethodOf Try.prog 77 "bogworks/bank.is" 131 := ⟨fun _ _ => by kernel_rfl⟩
instance : MethodOf Try.prog 79 "bogworks/bank.is" 132 := ⟨fun _ _ => by kernel_rfl⟩
instance : MethodOf Try.prog 96 "bogworks/bank.is" 133 := ⟨fun _ _ => by kernel_rfl⟩
instance : TySz Try.prog 2 false 1 8 := ⟨by kernel_rfl, by kernel_rfl⟩
instance : ConcTy Try.prog 2 := ⟨by kernel_rfl⟩
instance : TyZero Try.prog 2 [.int .i64 0] := ⟨by kernel_rfl⟩
instance : IntTy Try.prog 2 .i64 := ⟨Try.underlying2⟩
instance : TySz Try.prog 3 false 1 8 := ⟨by kernel_rfl, by kernel_rfl⟩
instance : ConcTy Try.prog 3 := ⟨by kernel_rfl⟩
instance : TyZero Try.prog 3 [.int .i64 0] := ⟨by kernel_rfl⟩
instance : IntTy Try.prog 3 .i64 := ⟨Try.underlying3⟩
instance : TySz Try.prog 4 false 1 1 := ⟨by kernel_rfl, by kernel_rfl⟩
instance : ConcTy Try.prog 4 := ⟨by kernel_rfl⟩
instance : TyZero Try.prog 4 [.bool false] := ⟨by kernel_rfl⟩
instance : BoolTy Try.prog 4 := ⟨Try.underlying4⟩
instance : TySz Try.prog 5 false 1 1 := ⟨by kernel_rfl, by kernel_rfl⟩
instance : ConcTy Try.prog 5 := ⟨by kernel_rfl⟩
instance : TyZero Try.prog 5 [.int .u8 0] := ⟨by kernel_rfl⟩
instance : IntTy Try.prog 5 .u8 := ⟨Try.underlying5⟩
instance : TySz Try.prog 6 false 1 1 := ⟨by kernel_rfl, by kernel_rfl⟩
instance : ConcTy Try.prog 6 := ⟨by kernel_rfl⟩
instance : TyZero Try.prog 6 [.int .u8 0] := ⟨by kernel_rfl⟩
instance : IntTy Try.prog 6 .u8 := ⟨Try.underlying6⟩
instance : TySz Try.prog 8 true 4 24 := ⟨by kernel_rfl, by kernel_rfl⟩
instance : ConcTy Try.prog 8 := ⟨by kernel_rfl⟩
instance : TyZero Try.prog 8 [.int .i64 0, .int .i64 0, .bool false, .int .u8 0] := ⟨by kernel_rfl⟩
instance : FieldOff Try.prog 8 0 0 2 := ⟨by kernel_rfl⟩
instance : FieldOff Try.prog 8 1 1 3 := ⟨by kernel_rfl⟩
instance : FieldOff Try.prog 8 2 2 4 := ⟨by kernel_rfl⟩
instance : FieldOff Try.prog 8 3 3 6 := ⟨by kernel_rfl⟩
instance : BuildTy Try.prog 8 (fun i => (#[(0, 1), (1, 1), (2, 1), (3, 1)] : Array (Nat × Nat))[i]?) [.int .i64 0, .int .i64 0, .bool false, .int .u8 0] := ⟨fun _ => by kernel_rfl⟩
instance : TySz Try.prog 9 false 1 16 := ⟨by kernel_rfl, by kernel_rfl⟩
instance : ConcTy Try.prog 9 := ⟨by kernel_rfl⟩
instance : TyZero Try.prog 9 [.string .empty] := ⟨by kernel_rfl⟩
instance : TySz Try.prog 10 false 1 16 := ⟨by kernel_rfl, by kernel_rfl⟩
instance : ConcTy Try.prog 10 := ⟨by kernel_rfl⟩
instance : TyZero Try.prog 10 [.string .empty] := ⟨by kernel_rfl⟩
instance : TySz Try.prog 11 false 1 16 := ⟨by kernel_rfl, by kernel_rfl⟩
instance : ConcTy Try.prog 11 := ⟨by kernel_rfl⟩
instance : TyZero Try.prog 11 [.string .empty] := ⟨by kernel_rfl⟩
instance : TySz Try.prog 12 false 1 8 := ⟨by kernel_rfl, by kernel_rfl⟩
instance : ConcTy Try.prog 12 := ⟨by kernel_rfl⟩
instance : TyZero Try.prog 12 [.int .u64 0] := ⟨by kernel_rfl⟩
instance : IntTy Try.prog 12 .u64 := ⟨Try.underlying12⟩
instance : TySz Try.prog 14 true 2 24 := ⟨by kernel_rfl, by kernel_rfl⟩
instance : ConcTy Try.prog 14 := ⟨by kernel_rfl⟩
instance : TyZero Try.prog 14 [.string .empty, .int .u64 0] := ⟨by kernel_rfl⟩
instance : FieldOff Try.prog 14 0 0 9 := ⟨by kernel_rfl⟩
instance : FieldOff Try.prog 14 1 1 12 := ⟨by kernel_rfl⟩
instance : BuildTy Try.prog 14 (fun i => (#[(0, 1), (1, 1)] : Array (Nat × Nat))[i]?) [.string .empty, .int .u64 0] := ⟨fun _ => by kernel_rfl⟩
instance : TySz Try.prog 15 false 1 8 := ⟨by kernel_rfl, by kernel_rfl⟩
instance : ConcTy Try.prog 15 := ⟨by kernel_rfl⟩
instance : TyZero Try.prog 15 [.pointer none] := ⟨by kernel_rfl⟩
instance : TySz Try.prog 16 false 1 8 := ⟨by kernel_rfl, by kernel_rfl⟩
instance : ConcTy Try.prog 16 := ⟨by kernel_rfl⟩
instance : TyZero Try.prog 16 [.pointer none] := ⟨by kernel_rfl⟩
instance : TySz Try.prog 17 false 1 8 := ⟨by kernel_rfl, by kernel_rfl⟩
instance : ConcTy Try.prog 17 := ⟨by kernel_rfl⟩
instance : TyZero Try.prog 17 [.pointer none] := ⟨by kernel_rfl⟩
instance : TySz Try.prog 19 true 1 8 := ⟨by kernel_rfl, by kernel_rfl⟩
instance : ConcTy Try.prog 19 := ⟨by kernel_rfl⟩
instance : TyZero Try.prog 19 [.pointer none] := ⟨by kernel_rfl⟩
instance : FieldOff Try.prog 19 0 0 17 := ⟨by kernel_rfl⟩
instance : BuildTy Try.prog 19 (fun i => (#[(0, 1)] : Array (Nat × Nat))[i]?) [.pointer none] := ⟨fun _ => by kernel_rfl⟩
instance : TySz Try.prog 20 false 1 16 := ⟨by kernel_rfl, by kernel_rfl⟩
instance : TyZero Try.prog 20 [.nilIface] := ⟨by kernel_rfl⟩
instance : IfaceTy Try.prog 20 := ⟨by kernel_rfl⟩
instance : TySz Try.prog 22 false 1 24 := ⟨by kernel_rfl, by kernel_rfl⟩
instance : ConcTy Try.prog 22 := ⟨by kernel_rfl⟩
instance : TyZero Try.prog 22 [.slice none 0 0] := ⟨by kernel_rfl⟩
instance : SliceOf Try.prog 22 58 := ⟨Try.underlying22⟩
instance : TySz Try.prog 23 false 1 24 := ⟨by kernel_rfl, by kernel_rfl⟩
instance : ConcTy Try.prog 23 := ⟨by kernel_rfl⟩
instance : TyZero Try.prog 23 [.slice none 0 0] := ⟨by kernel_rfl⟩
instance : SliceOf Try.prog 23 53 := ⟨Try.underlying23⟩
instance : TySz Try.prog 25 true 4 64 := ⟨by kernel_rfl, by kernel_rfl⟩
instance : ConcTy Try.prog 25 := ⟨by kernel_rfl⟩
instance : TyZero Try.prog 25 [.int .i64 0, .int .i64 0, .slice none 0 0, .slice none 0 0] := ⟨by kernel_rfl⟩
instance : FieldOff Try.prog 25 0 0 3 := ⟨by kernel_rfl⟩
instance : FieldOff Try.prog 25 1 1 3 := ⟨by kernel_rfl⟩
instance : FieldOff Try.prog 25 2 2 22 := ⟨by kernel_rfl⟩
instance : FieldOff Try.prog 25 3 3 23 := ⟨by kernel_rfl⟩
instance : BuildTy Try.prog 25 (fun i => (#[(0, 1), (1, 1), (2, 1), (3, 1)] : Array (Nat × Nat))[i]?) [.int .i64 0, .int .i64 0, .slice none 0 0, .slice none 0 0] := ⟨fun _ => by kernel_rfl⟩
instance : TySz Try.prog 28 false 1 8 := ⟨by kernel_rfl, by kernel_rfl⟩
instance : ConcTy Try.prog 28 := ⟨by kernel_rfl⟩
instance : TyZero Try.prog 28 [.int .i64 0] := ⟨by kernel_rfl⟩
instance : IntTy Try.prog 28 .i64 := ⟨Try.underlying28⟩
instance : TySz Try.prog 34 true 2 16 := ⟨by kernel_rfl, by kernel_rfl⟩
instance : ConcTy Try.prog 34 := ⟨by kernel_rfl⟩
instance : TyZero Try.prog 34 [.int .i64 0, .int .i64 0] := ⟨by kernel_rfl⟩
instance : FieldOff Try.prog 34 0 0 3 := ⟨by kernel_rfl⟩
instance : FieldOff Try.prog 34 1 1 3 := ⟨by kernel_rfl⟩
instance : BuildTy Try.prog 34 (fun i => (#[(0, 1), (1, 1)] : Array (Nat × Nat))[i]?) [.int .i64 0, .int .i64 0] := ⟨fun _ => by kernel_rfl⟩
instance : TySz Try.prog 41 true 6 80 := ⟨by kernel_rfl, by kernel_rfl⟩
instance : ConcTy Try.prog 41 := ⟨by kernel_rfl⟩
instance : TyZero Try.prog 41 [.int .i64 0, .int .i64 0, .slice none 0 0, .slice none 0 0, .int .i64 0, .int .i64 0] := ⟨by kernel_rfl⟩
instance : FieldOff Try.prog 41 0 0 25 := ⟨by kernel_rfl⟩
instance : FieldOff Try.prog 41 1 4 3 := ⟨by kernel_rfl⟩
instance : FieldOff Try.prog 41 2 5 3 := ⟨by kernel_rfl⟩
instance : BuildTy Try.prog 41 (fun i => (#[(0, 4), (4, 1), (5, 1)] : Array (Nat × Nat))[i]?) [.int .i64 0, .int .i64 0, .slice none 0 0, .slice none 0 0, .int .i64 0, .int .i64 0] := ⟨fun _ => by kernel_rfl⟩
instance : TySz Try.prog 43 false 1 24 := ⟨by kernel_rfl, by kernel_rfl⟩
instance : ConcTy Try.prog 43 := ⟨by kernel_rfl⟩
instance : TyZero Try.prog 43 [.slice none 0 0] := ⟨by kernel_rfl⟩
instance : SliceOf Try.prog 43 41 := ⟨Try.underlying43⟩
instance : TySz Try.prog 45 false 1 24 := ⟨by kernel_rfl, by kernel_rfl⟩
instance : ConcTy Try.prog 45 := ⟨by kernel_rfl⟩
instance : TyZero Try.prog 45 [.slice none 0 0] := ⟨by kernel_rfl⟩
instance : SliceOf Try.prog 45 3 := ⟨Try.underlying45⟩
instance : TySz Try.prog 46 false 1 24 := ⟨by kernel_rfl, by kernel_rfl⟩
instance : ConcTy Try.prog 46 := ⟨by kernel_rfl⟩
instance : TyZero Try.prog 46 [.slice none 0 0] := ⟨by kernel_rfl⟩
instance : SliceOf Try.prog 46 112 := ⟨Try.underlying46⟩
instance : TySz Try.prog 49 false 1 8 := ⟨by kernel_rfl, by kernel_rfl⟩
instance : ConcTy Try.prog 49 := ⟨by kernel_rfl⟩
instance : TyZero Try.prog 49 [.nilFunc] := ⟨by kernel_rfl⟩
instance : TySz Try.prog 53 true 2 16 := ⟨by kernel_rfl, by kernel_rfl⟩
instance : ConcTy Try.prog 53 := ⟨by kernel_rfl⟩
instance : TyZero Try.prog 53 [.int .i64 0, .int .i64 0] := ⟨by kernel_rfl⟩
instance : FieldOff Try.prog 53 0 0 3 := ⟨by kernel_rfl⟩
instance : FieldOff Try.prog 53 1 1 3 := ⟨by kernel_rfl⟩
instance : BuildTy Try.prog 53 (fun i => (#[(0, 1), (1, 1)] : Array (Nat × Nat))[i]?) [.int .i64 0, .int .i64 0] := ⟨fun _ => by kernel_rfl⟩
instance : TySz Try.prog 56 false 1 8 := ⟨by kernel_rfl, by kernel_rfl⟩
instance : ConcTy Try.prog 56 := ⟨by kernel_rfl⟩
instance : TyZero Try.prog 56 [.nilFunc] := ⟨by kernel_rfl⟩
instance : TySz Try.prog 58 true 5 40 := ⟨by kernel_rfl, by kernel_rfl⟩
instance : ConcTy Try.prog 58 := ⟨by kernel_rfl⟩
instance : TyZero Try.prog 58 [.int .i64 0, .int .i64 0, .int .i64 0, .int .i64 0, .int .i64 0] := ⟨by kernel_rfl⟩
instance : FieldOff Try.prog 58 0 0 3 := ⟨by kernel_rfl⟩
instance : FieldOff Try.prog 58 1 1 34 := ⟨by kernel_rfl⟩
instance : FieldOff Try.prog 58 2 3 34 := ⟨by kernel_rfl⟩
instance : BuildTy Try.prog 58 (fun i => (#[(0, 1), (1, 2), (3, 2)] : Array (Nat × Nat))[i]?) [.int .i64 0, .int .i64 0, .int .i64 0, .int .i64 0, .int .i64 0] := ⟨fun _ => by kernel_rfl⟩
instance : TySz Try.prog 61 false 1 8 := ⟨by kernel_rfl, by kernel_rfl⟩
instance : ConcTy Try.prog 61 := ⟨by kernel_rfl⟩
instance : TyZero Try.prog 61 [.nilFunc] := ⟨by kernel_rfl⟩
instance : TySz Try.prog 63 false 1 24 := ⟨by kernel_rfl, by kernel_rfl⟩
instance : ConcTy Try.prog 63 := ⟨by kernel_rfl⟩
instance : TyZero Try.prog 63 [.slice none 0 0] := ⟨by kernel_rfl⟩
instance : SliceOf Try.prog 63 25 := ⟨Try.underlying63⟩
instance : TySz Try.prog 69 false 1 8 := ⟨by kernel_rfl, by kernel_rfl⟩
instance : ConcTy Try.prog 69 := ⟨by kernel_rfl⟩
instance : TyZero Try.prog 69 [.pointer none] := ⟨by kernel_rfl⟩
instance : TySz Try.prog 71 true 4 64 := ⟨by kernel_rfl, by kernel_rfl⟩
instance : ConcTy Try.prog 71 := ⟨by kernel_rfl⟩
instance : TyZero Try.prog 71 [.int .i64 0, .int .i64 0, .slice none 0 0, .slice none 0 0] := ⟨by kernel_rfl⟩
instance : FieldOff Try.prog 71 0 0 25 := ⟨by kernel_rfl⟩
instance : BuildTy Try.prog 71 (fun i => (#[(0, 4)] : Array (Nat × Nat))[i]?) [.int .i64 0, .int .i64 0, .slice none 0 0, .slice none 0 0] := ⟨fun _ => by kernel_rfl⟩
instance : TySz Try.prog 73 false 1 8 := ⟨by kernel_rfl, by kernel_rfl⟩
instance : ConcTy Try.prog 73 := ⟨by kernel_rfl⟩
instance : TyZero Try.prog 73 [.nilFunc] := ⟨by kernel_rfl⟩
instance : TySz Try.prog 79 true 2 16 := ⟨by kernel_rfl, by kernel_rfl⟩
instance : ConcTy Try.prog 79 := ⟨by kernel_rfl⟩
instance : TyZero Try.prog 79 [.int .i64 0, .int .i64 0] := ⟨by kernel_rfl⟩
instance : FieldOff Try.prog 79 0 0 77 := ⟨by kernel_rfl⟩
instance : FieldOff Try.prog 79 1 0 3 := ⟨by kernel_rfl⟩
instance : FieldOff Try.prog 79 2 1 3 := ⟨by kernel_rfl⟩
instance : BuildTy Try.prog 79 (fun i => (#[(0, 0), (0, 1), (1, 1)] : Array (Nat × Nat))[i]?) [.int .i64 0, .int .i64 0] := ⟨fun _ => by kernel_rfl⟩
instance : TySz Try.prog 80 false 1 24 := ⟨by kernel_rfl, by kernel_rfl⟩
instance : ConcTy Try.prog 80 := ⟨by kernel_rfl⟩
instance : TyZero Try.prog 80 [.slice none 0 0] := ⟨by kernel_rfl⟩
instance : SliceOf Try.prog 80 85 := ⟨Try.underlying80⟩
instance : TySz Try.prog 85 true 2 48 := ⟨by kernel_rfl, by kernel_rfl⟩
instance : ConcTy Try.prog 85 := ⟨by kernel_rfl⟩
instance : TyZero Try.prog 85 [.slice none 0 0, .slice none 0 0] := ⟨by kernel_rfl⟩
instance : FieldOff Try.prog 85 0 0 45 := ⟨by kernel_rfl⟩
instance : FieldOff Try.prog 85 1 1 45 := ⟨by kernel_rfl⟩
instance : BuildTy Try.prog 85 (fun i => (#[(0, 1), (1, 1)] : Array (Nat × Nat))[i]?) [.slice none 0 0, .slice none 0 0] := ⟨fun _ => by kernel_rfl⟩
instance : TySz Try.prog 89 true 3 24 := ⟨by kernel_rfl, by kernel_rfl⟩
instance : ConcTy Try.prog 89 := ⟨by kernel_rfl⟩
instance : TyZero Try.prog 89 [.int .i64 0, .int .i64 0, .int .i64 0] := ⟨by kernel_rfl⟩
instance : FieldOff Try.prog 89 0 0 3 := ⟨by kernel_rfl⟩
instance : FieldOff Try.prog 89 1 1 34 := ⟨by kernel_rfl⟩
instance : BuildTy Try.prog 89 (fun i => (#[(0, 1), (1, 2)] : Array (Nat × Nat))[i]?) [.int .i64 0, .int .i64 0, .int .i64 0] := ⟨fun _ => by kernel_rfl⟩
instance : TySz Try.prog 91 false 1 24 := ⟨by kernel_rfl, by kernel_rfl⟩
instance : ConcTy Try.prog 91 := ⟨by kernel_rfl⟩
instance : TyZero Try.prog 91 [.slice none 0 0] := ⟨by kernel_rfl⟩
instance : SliceOf Try.prog 91 125 := ⟨Try.underlying91⟩
instance : TySz Try.prog 93 false 1 8 := ⟨by kernel_rfl, by kernel_rfl⟩
instance : ConcTy Try.prog 93 := ⟨by kernel_rfl⟩
instance : TyZero Try.prog 93 [.int .u64 0] := ⟨by kernel_rfl⟩
instance : IntTy Try.prog 93 .u64 := ⟨Try.underlying93⟩
instance : TySz Try.prog 96 true 2 16 := ⟨by kernel_rfl, by kernel_rfl⟩
instance : ConcTy Try.prog 96 := ⟨by kernel_rfl⟩
instance : TyZero Try.prog 96 [.int .i64 0, .bool false] := ⟨by kernel_rfl⟩
instance : FieldOff Try.prog 96 0 0 3 := ⟨by kernel_rfl⟩
instance : FieldOff Try.prog 96 1 1 4 := ⟨by kernel_rfl⟩
instance : BuildTy Try.prog 96 (fun i => (#[(0, 1), (1, 1)] : Array (Nat × Nat))[i]?) [.int .i64 0, .bool false] := ⟨fun _ => by kernel_rfl⟩
instance : TySz Try.prog 102 false 1 24 := ⟨by kernel_rfl, by kernel_rfl⟩
instance : ConcTy Try.prog 102 := ⟨by kernel_rfl⟩
instance : TyZero Try.prog 102 [.slice none 0 0] := ⟨by kernel_rfl⟩
instance : SliceOf Try.prog 102 93 := ⟨Try.underlying102⟩
instance : TySz Try.prog 104 false 1 8 := ⟨by kernel_rfl, by kernel_rfl⟩
instance : ConcTy Try.prog 104 := ⟨by kernel_rfl⟩
instance : TyZero Try.prog 104 [.nilFunc] := ⟨by kernel_rfl⟩
instance : TySz Try.prog 106 true 1 8 := ⟨by kernel_rfl, by kernel_rfl⟩
instance : ConcTy Try.prog 106 := ⟨by kernel_rfl⟩
instance : TyZero Try.prog 106 [.nilFunc] := ⟨by kernel_rfl⟩
instance : FieldOff Try.prog 106 0 0 104 := ⟨by kernel_rfl⟩
instance : BuildTy Try.prog 106 (fun i => (#[(0, 1)] : Array (Nat × Nat))[i]?) [.nilFunc] := ⟨fun _ => by kernel_rfl⟩
instance : TySz Try.prog 112 false 1 2 := ⟨by kernel_rfl, by kernel_rfl⟩
instance : ConcTy Try.prog 112 := ⟨by kernel_rfl⟩
instance : TyZero Try.prog 112 [.int .u16 0] := ⟨by kernel_rfl⟩
instance : IntTy Try.prog 112 .u16 := ⟨Try.underlying112⟩
instance : TySz Try.prog 114 true 1 8 := ⟨by kernel_rfl, by kernel_rfl⟩
instance : ConcTy Try.prog 114 := ⟨by kernel_rfl⟩
instance : TyZero Try.prog 114 [.int .i64 0] := ⟨by kernel_rfl⟩
instance : FieldOff Try.prog 114 0 0 28 := ⟨by kernel_rfl⟩
instance : BuildTy Try.prog 114 (fun i => (#[(0, 1)] : Array (Nat × Nat))[i]?) [.int .i64 0] := ⟨fun _ => by kernel_rfl⟩
instance : TySz Try.prog 116 true 4 32 := ⟨by kernel_rfl, by kernel_rfl⟩
instance : ConcTy Try.prog 116 := ⟨by kernel_rfl⟩
instance : TyZero Try.prog 116 [.int .i64 0, .int .i64 0, .int .i64 0, .int .i64 0] := ⟨by kernel_rfl⟩
instance : ArrayOf Try.prog 116 4 3 := ⟨Try.underlying116⟩
instance : BuildTy Try.prog 116 (fun i => some (i * 1, 1)) [.int .i64 0, .int .i64 0, .int .i64 0, .int .i64 0] := ⟨fun _ => by kernel_rfl⟩
instance : TySz Try.prog 118 true 5 40 := ⟨by kernel_rfl, by kernel_rfl⟩
instance : ConcTy Try.prog 118 := ⟨by kernel_rfl⟩
instance : TyZero Try.prog 118 [.int .i64 0, .int .i64 0, .int .i64 0, .int .i64 0, .int .i64 0] := ⟨by kernel_rfl⟩
instance : FieldOff Try.prog 118 0 0 116 := ⟨by kernel_rfl⟩
instance : FieldOff Try.prog 118 1 4 3 := ⟨by kernel_rfl⟩
instance : BuildTy Try.prog 118 (fun i => (#[(0, 4), (4, 1)] : Array (Nat × Nat))[i]?) [.int .i64 0, .int .i64 0, .int .i64 0, .int .i64 0, .int .i64 0] := ⟨fun _ => by kernel_rfl⟩
instance : TySz Try.prog 119 false 1 8 := ⟨by kernel_rfl, by kernel_rfl⟩
instance : ConcTy Try.prog 119 := ⟨by kernel_rfl⟩
instance : TyZero Try.prog 119 [.map none] := ⟨by kernel_rfl⟩
instance : MapTy Try.prog 119 118 89 := ⟨Try.underlying119⟩
instance : TySz Try.prog 121 false 1 8 := ⟨by kernel_rfl, by kernel_rfl⟩
instance : ConcTy Try.prog 121 := ⟨by kernel_rfl⟩
instance : TyZero Try.prog 121 [.nilFunc] := ⟨by kernel_rfl⟩
instance : TySz Try.prog 125 false 1 16 := ⟨by kernel_rfl, by kernel_rfl⟩
instance : TyZero Try.prog 125 [.nilIface] := ⟨by kernel_rfl⟩
instance : IfaceTy Try.prog 125 := ⟨by kernel_rfl⟩
instance : TySz Try.prog 126 false 1 8 := ⟨by kernel_rfl, by kernel_rfl⟩
instance : ConcTy Try.prog 126 := ⟨by kernel_rfl⟩
instance : TyZero Try.prog 126 [.nilFunc] := ⟨by kernel_rfl⟩
instance : TySz Try.prog 130 false 1 8 := ⟨by kernel_rfl, by kernel_rfl⟩
instance : ConcTy Try.prog 130 := ⟨by kernel_rfl⟩
instance : TyZero Try.prog 130 [.nilFunc] := ⟨by kernel_rfl⟩
instance : TySz Try.prog 134 false 1 4 := ⟨by kernel_rfl, by kernel_rfl⟩
instance : ConcTy Try.prog 134 := ⟨by kernel_rfl⟩
instance : TyZero Try.prog 134 [.int .u32 0] := ⟨by kernel_rfl⟩
instance : IntTy Try.prog 134 .u32 := ⟨Try.underlying134⟩
instance : TySz Try.prog 136 false 1 8 := ⟨by kernel_rfl, by kernel_rfl⟩
instance : ConcTy Try.prog 136 := ⟨by kernel_rfl⟩
instance : TyZero Try.prog 136 [.int .u64 0] := ⟨by kernel_rfl⟩
instance : IntTy Try.prog 136 .u64 := ⟨Try.underlying136⟩
instance : TySz Try.prog 138 false 1 8 := ⟨by kernel_rfl, by kernel_rfl⟩
instance : ConcTy Try.prog 138 := ⟨by kernel_rfl⟩
instance : TyZero Try.prog 138 [.nilFunc] := ⟨by kernel_rfl⟩
instance : TySz Try.prog 139 false 1 8 := ⟨by kernel_rfl, by kernel_rfl⟩
instance : ConcTy Try.prog 139 := ⟨by kernel_rfl⟩
instance : TyZero Try.prog 139 [.nilFunc] := ⟨by kernel_rfl⟩
instance : TySz Try.prog 141 true 5 40 := ⟨by kernel_rfl, by kernel_rfl⟩
instance : ConcTy Try.prog 141 := ⟨by kernel_rfl⟩
instance : TyZero Try.prog 141 [.int .i64 0, .int .i64 0, .int .i64 0, .int .i64 0, .int .i64 0] := ⟨by kernel_rfl⟩
instance : FieldOff Try.prog 141 0 0 3 := ⟨by kernel_rfl⟩
instance : FieldOff Try.prog 141 1 1 34 := ⟨by kernel_rfl⟩
instance : FieldOff Try.prog 141 2 3 34 := ⟨by kernel_rfl⟩
instance : BuildTy Try.prog 141 (fun i => (#[(0, 1), (1, 2), (3, 2)] : Array (Nat × Nat))[i]?) [.int .i64 0, .int .i64 0, .int .i64 0, .int .i64 0, .int .i64 0] := ⟨fun _ => by kernel_rfl⟩
instance : TySz Try.prog 143 false 1 8 := ⟨by kernel_rfl, by kernel_rfl⟩
instance : ConcTy Try.prog 143 := ⟨by kernel_rfl⟩
instance : TyZero Try.prog 143 [.nilFunc] := ⟨by kernel_rfl⟩
instance : TySz Try.prog 147 false 1 8 := ⟨by kernel_rfl, by kernel_rfl⟩
instance : ConcTy Try.prog 147 := ⟨by kernel_rfl⟩
instance : TyZero Try.prog 147 [.nilFunc] := ⟨by kernel_rfl⟩
instance : TySz Try.prog 154 true 4 40 := ⟨by kernel_rfl, by kernel_rfl⟩
instance : ConcTy Try.prog 154 := ⟨by kernel_rfl⟩
instance : TyZero Try.prog 154 [.pointer none, .pointer none, .pointer none, .string .empty] := ⟨by kernel_rfl⟩
instance : FieldOff Try.prog 154 0 0 17 := ⟨by kernel_rfl⟩
instance : FieldOff Try.prog 154 1 1 17 := ⟨by kernel_rfl⟩
instance : FieldOff Try.prog 154 2 2 17 := ⟨by kernel_rfl⟩
instance : FieldOff Try.prog 154 3 3 9 := ⟨by kernel_rfl⟩
instance : BuildTy Try.prog 154 (fun i => (#[(0, 1), (1, 1), (2, 1), (3, 1)] : Array (Nat × Nat))[i]?) [.pointer none, .pointer none, .pointer none, .string .empty] := ⟨fun _ => by kernel_rfl⟩
instance : TySz Try.prog 159 false 1 1 := ⟨by kernel_rfl, by kernel_rfl⟩
instance : ConcTy Try.prog 159 := ⟨by kernel_rfl⟩
instance : TyZero Try.prog 159 [.int .u8 0] := ⟨by kernel_rfl⟩
instance : IntTy Try.prog 159 .u8 := ⟨Try.underlying159⟩
instance : TySz Try.prog 160 false 1 1 := ⟨by kernel_rfl, by kernel_rfl⟩
instance : ConcTy Try.prog 160 := ⟨by kernel_rfl⟩
instance : TyZero Try.prog 160 [.int .u8 0] := ⟨by kernel_rfl⟩
instance : IntTy Try.prog 160 .u8 := ⟨Try.underlying160⟩
instance : TySz Try.prog 161 false 1 8 := ⟨by kernel_rfl, by kernel_rfl⟩
instance : ConcTy Try.prog 161 := ⟨by kernel_rfl⟩
instance : TyZero Try.prog 161 [.nilFunc] := ⟨by kernel_rfl⟩
instance : TySz Try.prog 162 false 1 8 := ⟨by kernel_rfl, by kernel_rfl⟩
instance : ConcTy Try.prog 162 := ⟨by kernel_rfl⟩
instance : TyZero Try.prog 162 [.pointer none] := ⟨by kernel_rfl⟩
instance : TySz Try.prog 163 false 1 4 := ⟨by kernel_rfl, by kernel_rfl⟩
instance : ConcTy Try.prog 163 := ⟨by kernel_rfl⟩
instance : TyZero Try.prog 163 [.int .i32 0] := ⟨by kernel_rfl⟩
instance : IntTy Try.prog 163 .i32 := ⟨Try.underlying163⟩
instance : TySz Try.prog 164 false 1 4 := ⟨by kernel_rfl, by kernel_rfl⟩
instance : ConcTy Try.prog 164 := ⟨by kernel_rfl⟩
instance : TyZero Try.prog 164 [.int .i32 0] := ⟨by kernel_rfl⟩
instance : IntTy Try.prog 164 .i32 := ⟨Try.underlying164⟩
instance : TySz Try.prog 166 true 11 48 := ⟨by kernel_rfl, by kernel_rfl⟩
instance : ConcTy Try.prog 166 := ⟨by kernel_rfl⟩
instance : TyZero Try.prog 166 [.int .u64 0, .int .u64 0, .int .u32 0, .int .u8 0, .int .u8 0, .int .u8 0, .int .u8 0, .nilFunc, .pointer none, .int .i32 0, .int .i32 0] := ⟨by kernel_rfl⟩
instance : FieldOff Try.prog 166 0 0 12 := ⟨by kernel_rfl⟩
instance : FieldOff Try.prog 166 1 1 12 := ⟨by kernel_rfl⟩
instance : FieldOff Try.prog 166 2 2 134 := ⟨by kernel_rfl⟩
instance : FieldOff Try.prog 166 3 3 159 := ⟨by kernel_rfl⟩
instance : FieldOff Try.prog 166 4 4 5 := ⟨by kernel_rfl⟩
instance : FieldOff Try.prog 166 5 5 5 := ⟨by kernel_rfl⟩
instance : FieldOff Try.prog 166 6 6 160 := ⟨by kernel_rfl⟩
instance : FieldOff Try.prog 166 7 7 161 := ⟨by kernel_rfl⟩
instance : FieldOff Try.prog 166 8 8 162 := ⟨by kernel_rfl⟩
instance : FieldOff Try.prog 166 9 9 163 := ⟨by kernel_rfl⟩
instance : FieldOff Try.prog 166 10 10 164 := ⟨by kernel_rfl⟩
instance : BuildTy Try.prog 166 (fun i => (#[(0, 1), (1, 1), (2, 1), (3, 1), (4, 1), (5, 1), (6, 1), (7, 1), (8, 1), (9, 1), (10, 1)] : Array (Nat × Nat))[i]?) [.int .u64 0, .int .u64 0, .int .u32 0, .int .u8 0, .int .u8 0, .int .u8 0, .int .u8 0, .nilFunc, .pointer none, .int .i32 0, .int .i32 0] := ⟨fun _ => by kernel_rfl⟩
instance : ZeroV Try.prog 89 (.agg #[.int .i64 0, .int .i64 0, .int .i64 0]) := ⟨by kernel_rfl⟩
instance : KeyTy Try.prog 34 [.i64, .i64] where
  dt := by kernel_rfl
  wide := by kernel_rfl
  sz := by kernel_rfl
  ng := by kernel_rfl
  ls := by
    intro is h hw
    match is, h with
    | [a0, a1], _ =>
      have c3 : Try.prog.cellsOf 3 = 1 := by kernel_rfl
      have c34 : Try.prog.cellsOf 34 = 2 := by kernel_rfl
      simp at hw
      simp [Program.keyLits, c3, c34, hw] <;> rfl
instance : KeyTy Try.prog 53 [.i64, .i64] where
  dt := by kernel_rfl
  wide := by kernel_rfl
  sz := by kernel_rfl
  ng := by kernel_rfl
  ls := by
    intro is h hw
    match is, h with
    | [a0, a1], _ =>
      have c3 : Try.prog.cellsOf 3 = 1 := by kernel_rfl
      have c53 : Try.prog.cellsOf 53 = 2 := by kernel_rfl
      simp at hw
      simp [Program.keyLits, c3, c53, hw] <;> rfl
instance : KeyTy Try.prog 58 [.i64, .i64, .i64, .i64, .i64] where
  dt := by kernel_rfl
  wide := by kernel_rfl
  sz := by kernel_rfl
  ng := by kernel_rfl
  ls := by
    intro is h hw
    match is, h with
    | [a0, a1, a2, a3, a4], _ =>
      have c3 : Try.prog.cellsOf 3 = 1 := by kernel_rfl
      have c34 : Try.prog.cellsOf 34 = 2 := by kernel_rfl
      have c58 : Try.prog.cellsOf 58 = 5 := by kernel_rfl
      simp at hw
      simp [Program.keyLits, c3, c34, c58, hw] <;> rfl
instance : KeyTy Try.prog 118 [.i64, .i64, .i64, .i64, .i64] where
  dt := by kernel_rfl
  wide := by kernel_rfl
  sz := by kernel_rfl
  ng := by kernel_rfl
  ls := by
    intro is h hw
    match is, h with
    | [a0, a1, a2, a3, a4], _ =>
      have c3 : Try.prog.cellsOf 3 = 1 := by kernel_rfl
      have c116 : Try.prog.cellsOf 116 = 4 := by kernel_rfl
      have c118 : Try.prog.cellsOf 118 = 5 := by kernel_rfl
      simp at hw
      simp [Program.keyLits, c3, c116, c118, hw, List.range_succ] <;> rfl
instance : HasBody Try.prog 3 := ⟨by kernel_rfl⟩
instance : HasBody Try.prog 4 := ⟨by kernel_rfl⟩
instance : HasBody Try.prog 5 := ⟨by kernel_rfl⟩
instance : HasBody Try.prog 6 := ⟨by kernel_rfl⟩
instance : HasBody Try.prog 7 := ⟨by kernel_rfl⟩
instance : HasBody Try.prog 8 := ⟨by kernel_rfl⟩
instance : HasBody Try.prog 9 := ⟨by kernel_rfl⟩
instance : HasBody Try.prog 10 := ⟨by kernel_rfl⟩
instance : HasBody Try.prog 11 := ⟨by kernel_rfl⟩
instance : HasBody Try.prog 12 := ⟨by kernel_rfl⟩
instance : HasBody Try.prog 13 := ⟨by kernel_rfl⟩
instance : HasBody Try.prog 14 := ⟨by kernel_rfl⟩
instance : HasBody Try.prog 15 := ⟨by kernel_rfl⟩
instance : HasBody Try.prog 16 := ⟨by kernel_rfl⟩
instance : HasBody Try.prog 17 := ⟨by kernel_rfl⟩
instance : HasBody Try.prog 18 := ⟨by kernel_rfl⟩
instance : HasBody Try.prog 19 := ⟨by kernel_rfl⟩
instance : HasBody Try.prog 20 := ⟨by kernel_rfl⟩
instance : HasBody Try.prog 21 := ⟨by kernel_rfl⟩
instance : HasBody Try.prog 22 := ⟨by kernel_rfl⟩
instance : HasBody Try.prog 23 := ⟨by kernel_rfl⟩
instance : HasBody Try.prog 24 := ⟨by kernel_rfl⟩
instance : HasBody Try.prog 25 := ⟨by kernel_rfl⟩
instance : HasBody Try.prog 26 := ⟨by kernel_rfl⟩
instance : HasBody Try.prog 27 := ⟨by kernel_rfl⟩
instance : HasBody Try.prog 28 := ⟨by kernel_rfl⟩
instance : HasBody Try.prog 29 := ⟨by kernel_rfl⟩
instance : HasBody Try.prog 30 := ⟨by kernel_rfl⟩
instance : HasBody Try.prog 31 := ⟨by kernel_rfl⟩
instance : HasBody Try.prog 32 := ⟨by kernel_rfl⟩
instance : HasBody Try.prog 33 := ⟨by kernel_rfl⟩
instance : HasBody Try.prog 34 := ⟨by kernel_rfl⟩
instance : HasBody Try.prog 35 := ⟨by kernel_rfl⟩
instance : HasBody Try.prog 36 := ⟨by kernel_rfl⟩
instance : HasBody Try.prog 37 := ⟨by kernel_rfl⟩
instance : HasBody Try.prog 38 := ⟨by kernel_rfl⟩
instance : HasBody Try.prog 39 := ⟨by kernel_rfl⟩
instance : HasBody Try.prog 40 := ⟨by kernel_rfl⟩
instance : HasBody Try.prog 41 := ⟨by kernel_rfl⟩
instance : HasBody Try.prog 42 := ⟨by kernel_rfl⟩
instance : HasBody Try.prog 43 := ⟨by kernel_rfl⟩
instance : HasBody Try.prog 44 := ⟨by kernel_rfl⟩
instance : HasBody Try.prog 45 := ⟨by kernel_rfl⟩
instance : HasBody Try.prog 46 := ⟨by kernel_rfl⟩
instance : HasBody Try.prog 47 := ⟨by kernel_rfl⟩
instance : HasBody Try.prog 48 := ⟨by kernel_rfl⟩
instance : HasBody Try.prog 49 := ⟨by kernel_rfl⟩
instance : HasBody Try.prog 50 := ⟨by kernel_rfl⟩
instance : HasBody Try.prog 51 := ⟨by kernel_rfl⟩
instance : HasBody Try.prog 52 := ⟨by kernel_rfl⟩
instance : HasBody Try.prog 53 := ⟨by kernel_rfl⟩
instance : HasBody Try.prog 54 := ⟨by kernel_rfl⟩
instance : HasBody Try.prog 55 := ⟨by kernel_rfl⟩
instance : HasBody Try.prog 56 := ⟨by kernel_rfl⟩
instance : HasBody Try.prog 57 := ⟨by kernel_rfl⟩
instance : HasBody Try.prog 58 := ⟨by kernel_rfl⟩
instance : HasBody Try.prog 59 := ⟨by kernel_rfl⟩
instance : HasBody Try.prog 60 := ⟨by kernel_rfl⟩
instance : HasBody Try.prog 61 := ⟨by kernel_rfl⟩
instance : HasBody Try.prog 62 := ⟨by kernel_rfl⟩
instance : HasBody Try.prog 63 := ⟨by kernel_rfl⟩
instance : HasBody Try.prog 64 := ⟨by kernel_rfl⟩
instance : HasBody Try.prog 65 := ⟨by kernel_rfl⟩
instance : HasBody Try.prog 66 := ⟨by kernel_rfl⟩
instance : HasBody Try.prog 67 := ⟨by kernel_rfl⟩
instance : HasBody Try.prog 68 := ⟨by kernel_rfl⟩
instance : HasBody Try.prog 69 := ⟨by kernel_rfl⟩
instance : HasBody Try.prog 70 := ⟨by kernel_rfl⟩
instance : HasBody Try.prog 71 := ⟨by kernel_rfl⟩
instance : HasBody Try.prog 72 := ⟨by kernel_rfl⟩
instance : HasBody Try.prog 73 := ⟨by kernel_rfl⟩
instance : HasBody Try.prog 74 := ⟨by kernel_rfl⟩
instance : HasBody Try.prog 75 := ⟨by kernel_rfl⟩
instance : HasBody Try.prog 76 := ⟨by kernel_rfl⟩
instance : HasBody Try.prog 77 := ⟨by kernel_rfl⟩
instance : HasBody Try.prog 78 := ⟨by kernel_rfl⟩
instance : HasBody Try.prog 79 := ⟨by kernel_rfl⟩
instance : HasBody Try.prog 80 := ⟨by kernel_rfl⟩
instance : HasBody Try.prog 81 := ⟨by kernel_rfl⟩
instance : HasBody Try.prog 82 := ⟨by kernel_rfl⟩
instance : HasBody Try.prog 83 := ⟨by kernel_rfl⟩
instance : HasBody Try.prog 84 := ⟨by kernel_rfl⟩
instance : HasBody Try.prog 85 := ⟨by kernel_rfl⟩
instance : HasBody Try.prog 86 := ⟨by kernel_rfl⟩
instance : HasBody Try.prog 87 := ⟨by kernel_rfl⟩
instance : HasBody Try.prog 88 := ⟨by kernel_rfl⟩
instance : HasBody Try.prog 89 := ⟨by kernel_rfl⟩
instance : HasBody Try.prog 90 := ⟨by kernel_rfl⟩
instance : HasBody Try.prog 91 := ⟨by kernel_rfl⟩
instance : HasBody Try.prog 92 := ⟨by kernel_rfl⟩
instance : HasBody Try.prog 93 := ⟨by kernel_rfl⟩
instance : HasBody Try.prog 94 := ⟨by kernel_rfl⟩
instance : HasBody Try.prog 95 := ⟨by kernel_rfl⟩
instance : HasBody Try.prog 96 := ⟨by kernel_rfl⟩
instance : HasBody Try.prog 97 := ⟨by kernel_rfl⟩
instance : HasBody Try.prog 98 := ⟨by kernel_rfl⟩
instance : HasBody Try.prog 99 := ⟨by kernel_rfl⟩
instance : HasBody Try.prog 100 := ⟨by kernel_rfl⟩
instance : HasBody Try.prog 101 := ⟨by kernel_rfl⟩
instance : HasBody Try.prog 102 := ⟨by kernel_rfl⟩
instance : HasBody Try.prog 103 := ⟨by kernel_rfl⟩
instance : HasBody Try.prog 104 := ⟨by kernel_rfl⟩
instance : HasBody Try.prog 105 := ⟨by kernel_rfl⟩
instance : HasBody Try.prog 106 := ⟨by kernel_rfl⟩
instance : HasBody Try.prog 107 := ⟨by kernel_rfl⟩
instance : HasBody Try.prog 108 := ⟨by kernel_rfl⟩
instance : HasBody Try.prog 109 := ⟨by kernel_rfl⟩
instance : HasBody Try.prog 110 := ⟨by kernel_rfl⟩
instance : HasBody Try.prog 111 := ⟨by kernel_rfl⟩
instance : HasBody Try.prog 112 := ⟨by kernel_rfl⟩
instance : HasBody Try.prog 113 := ⟨by kernel_rfl⟩
instance : HasBody Try.prog 114 := ⟨by kernel_rfl⟩
instance : HasBody Try.prog 115 := ⟨by kernel_rfl⟩
instance : HasBody Try.prog 131 := ⟨by kernel_rfl⟩
instance : HasBody Try.prog 132 := ⟨by kernel_rfl⟩
instance : HasBody Try.prog 133 := ⟨by kernel_rfl⟩
end Go.Proofs.Ytakmopiceopcpaa
end
