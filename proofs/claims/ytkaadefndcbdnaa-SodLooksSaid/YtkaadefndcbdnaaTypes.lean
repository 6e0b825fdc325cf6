/- The types of this program, as the rules want them. -/
import Derived.Test.YtkaadefndcbdnaaChecked
import Derived.Test.YtkaadefndcbdnaaFloat
import Derived.Test.YtkaadefndcbdnaaMaps
namespace Go.Proofs.Ytkaadefndcbdnaa
theorem prog_mixed : Try.prog.follows .mixedOrders = true := by kernel_rfl
instance : MethodOf Try.prog 155 "bogworks/sod.of" 139 := ⟨fun _ _ => by kernel_rfl⟩
instance : MethodOf Try.prog 159 "bogworks/sod.of" 140 := ⟨fun _ _ => by kernel_rfl⟩
instance : TySz Try.prog 2 false 1 8 := ⟨by kernel_rfl, by kernel_rfl⟩
instance : ConcTy Try.prog 2 := ⟨by kernel_rfl⟩
instance : TyZero Try.prog 2 [.int .i64 0] := ⟨by kernel_rfl⟩
instance : IntTy Try.prog 2 .i64 := ⟨Try.underlying2⟩
instance : TySz Try.prog 3 false 1 8 := ⟨by kernel_rfl, by kernel_rfl⟩
instance : ConcTy Try.prog 3 := ⟨by kernel_rfl⟩
instance : TyZero Try.prog 3 [.int .i64 0] := ⟨by kernel_rfl⟩
instance : IntTy Try.prog 3 .i64 := ⟨Try.underlying3⟩
instance : TySz Try.prog 4 false 1 1 := ⟨by kernel_rfl, by kernel_rfl⟩
instance : ConcTy Try.prog 4 := ⟨by kernel_rfl⟩
instance : TyZero Try.prog 4 [.bool false] := ⟨by kernel_rfl⟩
instance : BoolTy Try.prog 4 := ⟨Try.underlying4⟩
instance : TySz Try.prog 5 false 1 1 := ⟨by kernel_rfl, by kernel_rfl⟩
instance : ConcTy Try.prog 5 := ⟨by kernel_rfl⟩
instance : TyZero Try.prog 5 [.int .u8 0] := ⟨by kernel_rfl⟩
instance : IntTy Try.prog 5 .u8 := ⟨Try.underlying5⟩
instance : TySz Try.prog 6 false 1 1 := ⟨by kernel_rfl, by kernel_rfl⟩
instance : ConcTy Try.prog 6 := ⟨by kernel_rfl⟩
instance : TyZero Try.prog 6 [.int .u8 0] := ⟨by kernel_rfl⟩
instance : IntTy Try.prog 6 .u8 := ⟨Try.underlying6⟩
instance : TySz Try.prog 8 true 4 24 := ⟨by kernel_rfl, by kernel_rfl⟩
instance : ConcTy Try.prog 8 := ⟨by kernel_rfl⟩
instance : TyZero Try.prog 8 [.int .i64 0, .int .i64 0, .bool false, .int .u8 0] := ⟨by kernel_rfl⟩
instance : FieldOff Try.prog 8 0 0 2 := ⟨by kernel_rfl⟩
instance : FieldOff Try.prog 8 1 1 3 := ⟨by kernel_rfl⟩
instance : FieldOff Try.prog 8 2 2 4 := ⟨by kernel_rfl⟩
instance : FieldOff Try.prog 8 3 3 6 := ⟨by kernel_rfl⟩
instance : BuildTy Try.prog 8 (fun i => (#[(0, 1), (1, 1), (2, 1), (3, 1)] : Array (Nat × Nat))[i]?) [.int .i64 0, .int .i64 0, .bool false, .int .u8 0] := ⟨fun _ => by kernel_rfl⟩
instance : TySz Try.prog 9 false 1 16 := ⟨by kernel_rfl, by kernel_rfl⟩
instance : ConcTy Try.prog 9 := ⟨by kernel_rfl⟩
instance : TyZero Try.prog 9 [.string .empty] := ⟨by kernel_rfl⟩
instance : TySz Try.prog 10 false 1 16 := ⟨by kernel_rfl, by kernel_rfl⟩
instance : ConcTy Try.prog 10 := ⟨by kernel_rfl⟩
instance : TyZero Try.prog 10 [.string .empty] := ⟨by kernel_rfl⟩
instance : TySz Try.prog 11 false 1 16 := ⟨by kernel_rfl, by kernel_rfl⟩
instance : ConcTy Try.prog 11 := ⟨by kernel_rfl⟩
instance : TyZero Try.prog 11 [.string .empty] := ⟨by kernel_rfl⟩
instance : TySz Try.prog 12 false 1 8 := ⟨by kernel_rfl, by kernel_rfl⟩
instance : ConcTy Try.prog 12 := ⟨by kernel_rfl⟩
instance : TyZero Try.prog 12 [.int .u64 0] := ⟨by kernel_rfl⟩
instance : IntTy Try.prog 12 .u64 := ⟨Try.underlying12⟩
instance : TySz Try.prog 14 true 2 24 := ⟨by kernel_rfl, by kernel_rfl⟩
instance : ConcTy Try.prog 14 := ⟨by kernel_rfl⟩
instance : TyZero Try.prog 14 [.string .empty, .int .u64 0] := ⟨by kernel_rfl⟩
instance : FieldOff Try.prog 14 0 0 9 := ⟨by kernel_rfl⟩
instance : FieldOff Try.prog 14 1 1 12 := ⟨by kernel_rfl⟩
instance : BuildTy Try.prog 14 (fun i => (#[(0, 1), (1, 1)] : Array (Nat × Nat))[i]?) [.string .empty, .int .u64 0] := ⟨fun _ => by kernel_rfl⟩
instance : TySz Try.prog 15 false 1 8 := ⟨by kernel_rfl, by kernel_rfl⟩
instance : ConcTy Try.prog 15 := ⟨by kernel_rfl⟩
instance : TyZero Try.prog 15 [.pointer none] := ⟨by kernel_rfl⟩
instance : TySz Try.prog 16 false 1 8 := ⟨by kernel_rfl, by kernel_rfl⟩
instance : ConcTy Try.prog 16 := ⟨by kernel_rfl⟩
instance : TyZero Try.prog 16 [.pointer none] := ⟨by kernel_rfl⟩
instance : TySz Try.prog 17 false 1 8 := ⟨by kernel_rfl, by kernel_rfl⟩
instance : ConcTy Try.prog 17 := ⟨by kernel_rfl⟩
instance : TyZero Try.prog 17 [.pointer none] := ⟨by kernel_rfl⟩
instance : TySz Try.prog 19 true 1 8 := ⟨by kernel_rfl, by kernel_rfl⟩
instance : ConcTy Try.prog 19 := ⟨by kernel_rfl⟩
instance : TyZero Try.prog 19 [.pointer none] := ⟨by kernel_rfl⟩
instance : FieldOff Try.prog 19 0 0 17 := ⟨by kernel_rfl⟩
instance : BuildTy Try.prog 19 (fun i => (#[(0, 1)] : Array (Nat × Nat))[i]?) [.pointer none] := ⟨fun _ => by kernel_rfl⟩
instance : TySz Try.prog 20 false 1 16 := ⟨by kernel_rfl, by kernel_rfl⟩
instance : TyZero Try.prog 20 [.nilIface] := ⟨by kernel_rfl⟩
instance : IfaceTy Try.prog 20 := ⟨by kernel_rfl⟩
instance : TySz Try.prog 22 false 1 24 := ⟨by kernel_rfl, by kernel_rfl⟩
instance : ConcTy Try.prog 22 := ⟨by kernel_rfl⟩
instance : TyZero Try.prog 22 [.slice none 0 0] := ⟨by kernel_rfl⟩
instance : SliceOf Try.prog 22 55 := ⟨Try.underlying22⟩
instance : TySz Try.prog 23 false 1 24 := ⟨by kernel_rfl, by kernel_rfl⟩
instance : ConcTy Try.prog 23 := ⟨by kernel_rfl⟩
instance : TyZero Try.prog 23 [.slice none 0 0] := ⟨by kernel_rfl⟩
instance : SliceOf Try.prog 23 28 := ⟨Try.underlying23⟩
instance : TySz Try.prog 24 false 1 24 := ⟨by kernel_rfl, by kernel_rfl⟩
instance : ConcTy Try.prog 24 := ⟨by kernel_rfl⟩
instance : TyZero Try.prog 24 [.slice none 0 0] := ⟨by kernel_rfl⟩
instance : SliceOf Try.prog 24 60 := ⟨Try.underlying24⟩
instance : TySz Try.prog 26 true 3 72 := ⟨by kernel_rfl, by kernel_rfl⟩
instance : ConcTy Try.prog 26 := ⟨by kernel_rfl⟩
instance : TyZero Try.prog 26 [.slice none 0 0, .slice none 0 0, .slice none 0 0] := ⟨by kernel_rfl⟩
instance : FieldOff Try.prog 26 0 0 22 := ⟨by kernel_rfl⟩
instance : FieldOff Try.prog 26 1 1 23 := ⟨by kernel_rfl⟩
instance : FieldOff Try.prog 26 2 2 24 := ⟨by kernel_rfl⟩
instance : BuildTy Try.prog 26 (fun i => (#[(0, 1), (1, 1), (2, 1)] : Array (Nat × Nat))[i]?) [.slice none 0 0, .slice none 0 0, .slice none 0 0] := ⟨fun _ => by kernel_rfl⟩
instance : TySz Try.prog 28 true 2 16 := ⟨by kernel_rfl, by kernel_rfl⟩
instance : ConcTy Try.prog 28 := ⟨by kernel_rfl⟩
instance : TyZero Try.prog 28 [.int .i64 0, .int .i64 0] := ⟨by kernel_rfl⟩
instance : FieldOff Try.prog 28 0 0 3 := ⟨by kernel_rfl⟩
instance : FieldOff Try.prog 28 1 1 3 := ⟨by kernel_rfl⟩
instance : BuildTy Try.prog 28 (fun i => (#[(0, 1), (1, 1)] : Array (Nat × Nat))[i]?) [.int .i64 0, .int .i64 0] := ⟨fun _ => by kernel_rfl⟩
instance : TySz Try.prog 31 false 1 8 := ⟨by kernel_rfl, by kernel_rfl⟩
instance : ConcTy Try.prog 31 := ⟨by kernel_rfl⟩
instance : TyZero Try.prog 31 [.int .i64 0] := ⟨by kernel_rfl⟩
instance : IntTy Try.prog 31 .i64 := ⟨Try.underlying31⟩
instance : TySz Try.prog 42 false 1 24 := ⟨by kernel_rfl, by kernel_rfl⟩
instance : ConcTy Try.prog 42 := ⟨by kernel_rfl⟩
instance : TyZero Try.prog 42 [.slice none 0 0] := ⟨by kernel_rfl⟩
instance : SliceOf Try.prog 42 142 := ⟨Try.underlying42⟩
instance : TySz Try.prog 43 false 1 24 := ⟨by kernel_rfl, by kernel_rfl⟩
instance : ConcTy Try.prog 43 := ⟨by kernel_rfl⟩
instance : TyZero Try.prog 43 [.slice none 0 0] := ⟨by kernel_rfl⟩
instance : SliceOf Try.prog 43 3 := ⟨Try.underlying43⟩
instance : TySz Try.prog 45 true 2 48 := ⟨by kernel_rfl, by kernel_rfl⟩
instance : ConcTy Try.prog 45 := ⟨by kernel_rfl⟩
instance : TyZero Try.prog 45 [.slice none 0 0, .slice none 0 0] := ⟨by kernel_rfl⟩
instance : FieldOff Try.prog 45 0 0 43 := ⟨by kernel_rfl⟩
instance : FieldOff Try.prog 45 1 1 43 := ⟨by kernel_rfl⟩
instance : BuildTy Try.prog 45 (fun i => (#[(0, 1), (1, 1)] : Array (Nat × Nat))[i]?) [.slice none 0 0, .slice none 0 0] := ⟨fun _ => by kernel_rfl⟩
instance : TySz Try.prog 55 true 3 24 := ⟨by kernel_rfl, by kernel_rfl⟩
instance : ConcTy Try.prog 55 := ⟨by kernel_rfl⟩
instance : TyZero Try.prog 55 [.int .i64 0, .int .i64 0, .int .i64 0] := ⟨by kernel_rfl⟩
instance : FieldOff Try.prog 55 0 0 3 := ⟨by kernel_rfl⟩
instance : FieldOff Try.prog 55 1 1 28 := ⟨by kernel_rfl⟩
instance : BuildTy Try.prog 55 (fun i => (#[(0, 1), (1, 2)] : Array (Nat × Nat))[i]?) [.int .i64 0, .int .i64 0, .int .i64 0] := ⟨fun _ => by kernel_rfl⟩
instance : TySz Try.prog 60 true 3 24 := ⟨by kernel_rfl, by kernel_rfl⟩
instance : ConcTy Try.prog 60 := ⟨by kernel_rfl⟩
instance : TyZero Try.prog 60 [.int .i64 0, .int .i64 0, .int .i64 0] := ⟨by kernel_rfl⟩
instance : FieldOff Try.prog 60 0 0 3 := ⟨by kernel_rfl⟩
instance : FieldOff Try.prog 60 1 1 28 := ⟨by kernel_rfl⟩
instance : BuildTy Try.prog 60 (fun i => (#[(0, 1), (1, 2)] : Array (Nat × Nat))[i]?) [.int .i64 0, .int .i64 0, .int .i64 0] := ⟨fun _ => by kernel_rfl⟩
instance : TySz Try.prog 66 false 1 24 := ⟨by kernel_rfl, by kernel_rfl⟩
instance : ConcTy Try.prog 66 := ⟨by kernel_rfl⟩
instance : TyZero Try.prog 66 [.slice none 0 0] := ⟨by kernel_rfl⟩
instance : SliceOf Try.prog 66 26 := ⟨Try.underlying66⟩
instance : TySz Try.prog 71 false 1 8 := ⟨by kernel_rfl, by kernel_rfl⟩
instance : ConcTy Try.prog 71 := ⟨by kernel_rfl⟩
instance : TyZero Try.prog 71 [.pointer none] := ⟨by kernel_rfl⟩
instance : TySz Try.prog 73 false 1 8 := ⟨by kernel_rfl, by kernel_rfl⟩
instance : ConcTy Try.prog 73 := ⟨by kernel_rfl⟩
instance : TyZero Try.prog 73 [.pointer none] := ⟨by kernel_rfl⟩
instance : TySz Try.prog 75 false 1 8 := ⟨by kernel_rfl, by kernel_rfl⟩
instance : ConcTy Try.prog 75 := ⟨by kernel_rfl⟩
instance : TyZero Try.prog 75 [.nilFunc] := ⟨by kernel_rfl⟩
instance : TySz Try.prog 78 false 1 24 := ⟨by kernel_rfl, by kernel_rfl⟩
instance : ConcTy Try.prog 78 := ⟨by kernel_rfl⟩
instance : TyZero Try.prog 78 [.slice none 0 0] := ⟨by kernel_rfl⟩
instance : SliceOf Try.prog 78 97 := ⟨Try.underlying78⟩
instance : TySz Try.prog 84 true 3 24 := ⟨by kernel_rfl, by kernel_rfl⟩
instance : ConcTy Try.prog 84 := ⟨by kernel_rfl⟩
instance : TyZero Try.prog 84 [.int .i64 0, .int .i64 0, .int .i64 0] := ⟨by kernel_rfl⟩
instance : ArrayOf Try.prog 84 3 3 := ⟨Try.underlying84⟩
instance : BuildTy Try.prog 84 (fun i => some (i * 1, 1)) [.int .i64 0, .int .i64 0, .int .i64 0] := ⟨fun _ => by kernel_rfl⟩
instance : TySz Try.prog 86 true 3 24 := ⟨by kernel_rfl, by kernel_rfl⟩
instance : ConcTy Try.prog 86 := ⟨by kernel_rfl⟩
instance : TyZero Try.prog 86 [.int .i64 0, .int .i64 0, .int .i64 0] := ⟨by kernel_rfl⟩
instance : FieldOff Try.prog 86 0 0 84 := ⟨by kernel_rfl⟩
instance : BuildTy Try.prog 86 (fun i => (#[(0, 3)] : Array (Nat × Nat))[i]?) [.int .i64 0, .int .i64 0, .int .i64 0] := ⟨fun _ => by kernel_rfl⟩
instance : TySz Try.prog 88 true 2 16 := ⟨by kernel_rfl, by kernel_rfl⟩
instance : ConcTy Try.prog 88 := ⟨by kernel_rfl⟩
instance : TyZero Try.prog 88 [.int .i64 0, .int .i64 0] := ⟨by kernel_rfl⟩
instance : FieldOff Try.prog 88 0 0 28 := ⟨by kernel_rfl⟩
instance : BuildTy Try.prog 88 (fun i => (#[(0, 2)] : Array (Nat × Nat))[i]?) [.int .i64 0, .int .i64 0] := ⟨fun _ => by kernel_rfl⟩
instance : TySz Try.prog 89 true 12 96 := ⟨by kernel_rfl, by kernel_rfl⟩
instance : ConcTy Try.prog 89 := ⟨by kernel_rfl⟩
instance : TyZero Try.prog 89 [.int .i64 0, .int .i64 0, .int .i64 0, .int .i64 0, .int .i64 0, .int .i64 0, .int .i64 0, .int .i64 0, .int .i64 0, .int .i64 0, .int .i64 0, .int .i64 0] := ⟨by kernel_rfl⟩
instance : ArrayOf Try.prog 89 6 88 := ⟨Try.underlying89⟩
instance : BuildTy Try.prog 89 (fun i => some (i * 2, 2)) [.int .i64 0, .int .i64 0, .int .i64 0, .int .i64 0, .int .i64 0, .int .i64 0, .int .i64 0, .int .i64 0, .int .i64 0, .int .i64 0, .int .i64 0, .int .i64 0] := ⟨fun _ => by kernel_rfl⟩
instance : TySz Try.prog 91 true 13 104 := ⟨by kernel_rfl, by kernel_rfl⟩
instance : ConcTy Try.prog 91 := ⟨by kernel_rfl⟩
instance : TyZero Try.prog 91 [.int .i64 0, .int .i64 0, .int .i64 0, .int .i64 0, .int .i64 0, .int .i64 0, .int .i64 0, .int .i64 0, .int .i64 0, .int .i64 0, .int .i64 0, .int .i64 0, .bool false] := ⟨by kernel_rfl⟩
instance : FieldOff Try.prog 91 0 0 89 := ⟨by kernel_rfl⟩
instance : FieldOff Try.prog 91 1 12 4 := ⟨by kernel_rfl⟩
instance : BuildTy Try.prog 91 (fun i => (#[(0, 12), (12, 1)] : Array (Nat × Nat))[i]?) [.int .i64 0, .int .i64 0, .int .i64 0, .int .i64 0, .int .i64 0, .int .i64 0, .int .i64 0, .int .i64 0, .int .i64 0, .int .i64 0, .int .i64 0, .int .i64 0, .bool false] := ⟨fun _ => by kernel_rfl⟩
instance : TySz Try.prog 92 false 1 8 := ⟨by kernel_rfl, by kernel_rfl⟩
instance : ConcTy Try.prog 92 := ⟨by kernel_rfl⟩
instance : TyZero Try.prog 92 [.nilFunc] := ⟨by kernel_rfl⟩
instance : TySz Try.prog 94 true 1 8 := ⟨by kernel_rfl, by kernel_rfl⟩
instance : ConcTy Try.prog 94 := ⟨by kernel_rfl⟩
instance : TyZero Try.prog 94 [.nilFunc] := ⟨by kernel_rfl⟩
instance : FieldOff Try.prog 94 0 0 92 := ⟨by kernel_rfl⟩
instance : BuildTy Try.prog 94 (fun i => (#[(0, 1)] : Array (Nat × Nat))[i]?) [.nilFunc] := ⟨fun _ => by kernel_rfl⟩
instance : TySz Try.prog 95 false 1 24 := ⟨by kernel_rfl, by kernel_rfl⟩
instance : ConcTy Try.prog 95 := ⟨by kernel_rfl⟩
instance : TyZero Try.prog 95 [.slice none 0 0] := ⟨by kernel_rfl⟩
instance : SliceOf Try.prog 95 43 := ⟨Try.underlying95⟩
instance : TySz Try.prog 97 true 2 48 := ⟨by kernel_rfl, by kernel_rfl⟩
instance : ConcTy Try.prog 97 := ⟨by kernel_rfl⟩
instance : TyZero Try.prog 97 [.slice none 0 0, .slice none 0 0] := ⟨by kernel_rfl⟩
instance : FieldOff Try.prog 97 0 0 43 := ⟨by kernel_rfl⟩
instance : FieldOff Try.prog 97 1 1 95 := ⟨by kernel_rfl⟩
instance : BuildTy Try.prog 97 (fun i => (#[(0, 1), (1, 1)] : Array (Nat × Nat))[i]?) [.slice none 0 0, .slice none 0 0] := ⟨fun _ => by kernel_rfl⟩
instance : TySz Try.prog 100 false 1 8 := ⟨by kernel_rfl, by kernel_rfl⟩
instance : ConcTy Try.prog 100 := ⟨by kernel_rfl⟩
instance : TyZero Try.prog 100 [.nilFunc] := ⟨by kernel_rfl⟩
instance : TySz Try.prog 103 false 1 24 := ⟨by kernel_rfl, by kernel_rfl⟩
instance : ConcTy Try.prog 103 := ⟨by kernel_rfl⟩
instance : TyZero Try.prog 103 [.slice none 0 0] := ⟨by kernel_rfl⟩
instance : SliceOf Try.prog 103 105 := ⟨Try.underlying103⟩
instance : TySz Try.prog 105 true 2 2 := ⟨by kernel_rfl, by kernel_rfl⟩
instance : ConcTy Try.prog 105 := ⟨by kernel_rfl⟩
instance : TyZero Try.prog 105 [.bool false, .bool false] := ⟨by kernel_rfl⟩
instance : ArrayOf Try.prog 105 2 4 := ⟨Try.underlying105⟩
instance : BuildTy Try.prog 105 (fun i => some (i * 1, 1)) [.bool false, .bool false] := ⟨fun _ => by kernel_rfl⟩
instance : TySz Try.prog 106 false 1 8 := ⟨by kernel_rfl, by kernel_rfl⟩
instance : ConcTy Try.prog 106 := ⟨by kernel_rfl⟩
instance : TyZero Try.prog 106 [.nilFunc] := ⟨by kernel_rfl⟩
instance : TySz Try.prog 108 true 1 8 := ⟨by kernel_rfl, by kernel_rfl⟩
instance : ConcTy Try.prog 108 := ⟨by kernel_rfl⟩
instance : TyZero Try.prog 108 [.nilFunc] := ⟨by kernel_rfl⟩
instance : FieldOff Try.prog 108 0 0 106 := ⟨by kernel_rfl⟩
instance : BuildTy Try.prog 108 (fun i => (#[(0, 1)] : Array (Nat × Nat))[i]?) [.nilFunc] := ⟨fun _ => by kernel_rfl⟩
instance : TySz Try.prog 110 false 1 8 := ⟨by kernel_rfl, by kernel_rfl⟩
instance : ConcTy Try.prog 110 := ⟨by kernel_rfl⟩
instance : TyZero Try.prog 110 [.nilFunc] := ⟨by kernel_rfl⟩
instance : TySz Try.prog 111 false 1 8 := ⟨by kernel_rfl, by kernel_rfl⟩
instance : ConcTy Try.prog 111 := ⟨by kernel_rfl⟩
instance : TyZero Try.prog 111 [.nilFunc] := ⟨by kernel_rfl⟩
instance : TySz Try.prog 112 false 1 24 := ⟨by kernel_rfl, by kernel_rfl⟩
instance : ConcTy Try.prog 112 := ⟨by kernel_rfl⟩
instance : TyZero Try.prog 112 [.slice none 0 0] := ⟨by kernel_rfl⟩
instance : SliceOf Try.prog 112 88 := ⟨Try.underlying112⟩
instance : TySz Try.prog 115 false 1 24 := ⟨by kernel_rfl, by kernel_rfl⟩
instance : ConcTy Try.prog 115 := ⟨by kernel_rfl⟩
instance : TyZero Try.prog 115 [.slice none 0 0] := ⟨by kernel_rfl⟩
instance : SliceOf Try.prog 115 116 := ⟨Try.underlying115⟩
instance : TySz Try.prog 116 false 1 8 := ⟨by kernel_rfl, by kernel_rfl⟩
instance : ConcTy Try.prog 116 := ⟨by kernel_rfl⟩
instance : TyZero Try.prog 116 [.int .u64 0] := ⟨by kernel_rfl⟩
instance : IntTy Try.prog 116 .u64 := ⟨Try.underlying116⟩
instance : TySz Try.prog 119 false 1 8 := ⟨by kernel_rfl, by kernel_rfl⟩
instance : ConcTy Try.prog 119 := ⟨by kernel_rfl⟩
instance : TyZero Try.prog 119 [.nilFunc] := ⟨by kernel_rfl⟩
instance : TySz Try.prog 121 false 1 8 := ⟨by kernel_rfl, by kernel_rfl⟩
instance : ConcTy Try.prog 121 := ⟨by kernel_rfl⟩
instance : TyZero Try.prog 121 [.nilFunc] := ⟨by kernel_rfl⟩
instance : TySz Try.prog 124 false 1 8 := ⟨by kernel_rfl, by kernel_rfl⟩
instance : ConcTy Try.prog 124 := ⟨by kernel_rfl⟩
instance : TyZero Try.prog 124 [.int .i64 0] := ⟨by kernel_rfl⟩
instance : IntTy Try.prog 124 .i64 := ⟨Try.underlying124⟩
instance : TySz Try.prog 126 false 1 8 := ⟨by kernel_rfl, by kernel_rfl⟩
instance : ConcTy Try.prog 126 := ⟨by kernel_rfl⟩
instance : TyZero Try.prog 126 [.map none] := ⟨by kernel_rfl⟩
instance : MapTy Try.prog 126 86 91 := ⟨Try.underlying126⟩
instance : TySz Try.prog 128 true 4 80 := ⟨by kernel_rfl, by kernel_rfl⟩
instance : ConcTy Try.prog 128 := ⟨by kernel_rfl⟩
instance : TyZero Try.prog 128 [.slice none 0 0, .slice none 0 0, .slice none 0 0, .map none] := ⟨by kernel_rfl⟩
instance : FieldOff Try.prog 128 0 0 26 := ⟨by kernel_rfl⟩
instance : FieldOff Try.prog 128 1 3 126 := ⟨by kernel_rfl⟩
instance : BuildTy Try.prog 128 (fun i => (#[(0, 3), (3, 1)] : Array (Nat × Nat))[i]?) [.slice none 0 0, .slice none 0 0, .slice none 0 0, .map none] := ⟨fun _ => by kernel_rfl⟩
instance : TySz Try.prog 130 false 1 8 := ⟨by kernel_rfl, by kernel_rfl⟩
instance : ConcTy Try.prog 130 := ⟨by kernel_rfl⟩
instance : TyZero Try.prog 130 [.nilFunc] := ⟨by kernel_rfl⟩
instance : TySz Try.prog 137 false 1 4 := ⟨by kernel_rfl, by kernel_rfl⟩
instance : ConcTy Try.prog 137 := ⟨by kernel_rfl⟩
instance : TyZero Try.prog 137 [.int .u32 0] := ⟨by kernel_rfl⟩
instance : IntTy Try.prog 137 .u32 := ⟨Try.underlying137⟩
instance : TySz Try.prog 139 false 1 8 := ⟨by kernel_rfl, by kernel_rfl⟩
instance : ConcTy Try.prog 139 := ⟨by kernel_rfl⟩
instance : TyZero Try.prog 139 [.int .u64 0] := ⟨by kernel_rfl⟩
instance : IntTy Try.prog 139 .u64 := ⟨Try.underlying139⟩
instance : TySz Try.prog 142 false 1 2 := ⟨by kernel_rfl, by kernel_rfl⟩
instance : ConcTy Try.prog 142 := ⟨by kernel_rfl⟩
instance : TyZero Try.prog 142 [.int .u16 0] := ⟨by kernel_rfl⟩
instance : IntTy Try.prog 142 .u16 := ⟨Try.underlying142⟩
instance : TySz Try.prog 143 false 1 8 := ⟨by kernel_rfl, by kernel_rfl⟩
instance : ConcTy Try.prog 143 := ⟨by kernel_rfl⟩
instance : TyZero Try.prog 143 [.nilFunc] := ⟨by kernel_rfl⟩
instance : TySz Try.prog 144 false 1 8 := ⟨by kernel_rfl, by kernel_rfl⟩
instance : ConcTy Try.prog 144 := ⟨by kernel_rfl⟩
instance : TyZero Try.prog 144 [.nilFunc] := ⟨by kernel_rfl⟩
instance : TySz Try.prog 155 true 2 16 := ⟨by kernel_rfl, by kernel_rfl⟩
instance : ConcTy Try.prog 155 := ⟨by kernel_rfl⟩
instance : TyZero Try.prog 155 [.int .i64 0, .int .i64 0] := ⟨by kernel_rfl⟩
instance : FieldOff Try.prog 155 0 0 88 := ⟨by kernel_rfl⟩
instance : BuildTy Try.prog 155 (fun i => (#[(0, 2)] : Array (Nat × Nat))[i]?) [.int .i64 0, .int .i64 0] := ⟨fun _ => by kernel_rfl⟩
instance : TySz Try.prog 159 true 4 32 := ⟨by kernel_rfl, by kernel_rfl⟩
instance : ConcTy Try.prog 159 := ⟨by kernel_rfl⟩
instance : TyZero Try.prog 159 [.int .i64 0, .int .i64 0, .int .i64 0, .int .i64 0] := ⟨by kernel_rfl⟩
instance : FieldOff Try.prog 159 0 0 155 := ⟨by kernel_rfl⟩
instance : FieldOff Try.prog 159 1 2 28 := ⟨by kernel_rfl⟩
instance : BuildTy Try.prog 159 (fun i => (#[(0, 2), (2, 2)] : Array (Nat × Nat))[i]?) [.int .i64 0, .int .i64 0, .int .i64 0, .int .i64 0] := ⟨fun _ => by kernel_rfl⟩
instance : TySz Try.prog 166 true 4 40 := ⟨by kernel_rfl, by kernel_rfl⟩
instance : ConcTy Try.prog 166 := ⟨by kernel_rfl⟩
instance : TyZero Try.prog 166 [.pointer none, .pointer none, .pointer none, .string .empty] := ⟨by kernel_rfl⟩
instance : FieldOff Try.prog 166 0 0 17 := ⟨by kernel_rfl⟩
instance : FieldOff Try.prog 166 1 1 17 := ⟨by kernel_rfl⟩
instance : FieldOff Try.prog 166 2 2 17 := ⟨by kernel_rfl⟩
instance : FieldOff Try.prog 166 3 3 9 := ⟨by kernel_rfl⟩
instance : BuildTy Try.prog 166 (fun i => (#[(0, 1), (1, 1), (2, 1), (3, 1)] : Array (Nat × Nat))[i]?) [.pointer none, .pointer none, .pointer none, .string .empty] := ⟨fun _ => by kernel_rfl⟩
instance : TySz Try.prog 171 false 1 1 := ⟨by kernel_rfl, by kernel_rfl⟩
instance : ConcTy Try.prog 171 := ⟨by kernel_rfl⟩
instance : TyZero Try.prog 171 [.int .u8 0] := ⟨by kernel_rfl⟩
instance : IntTy Try.prog 171 .u8 := ⟨Try.underlying171⟩
instance : TySz Try.prog 172 false 1 1 := ⟨by kernel_rfl, by kernel_rfl⟩
instance : ConcTy Try.prog 172 := ⟨by kernel_rfl⟩
instance : TyZero Try.prog 172 [.int .u8 0] := ⟨by kernel_rfl⟩
instance : IntTy Try.prog 172 .u8 := ⟨Try.underlying172⟩
instance : TySz Try.prog 173 false 1 8 := ⟨by kernel_rfl, by kernel_rfl⟩
instance : ConcTy Try.prog 173 := ⟨by kernel_rfl⟩
instance : TyZero Try.prog 173 [.nilFunc] := ⟨by kernel_rfl⟩
instance : TySz Try.prog 174 false 1 8 := ⟨by kernel_rfl, by kernel_rfl⟩
instance : ConcTy Try.prog 174 := ⟨by kernel_rfl⟩
instance : TyZero Try.prog 174 [.pointer none] := ⟨by kernel_rfl⟩
instance : TySz Try.prog 175 false 1 4 := ⟨by kernel_rfl, by kernel_rfl⟩
instance : ConcTy Try.prog 175 := ⟨by kernel_rfl⟩
instance : TyZero Try.prog 175 [.int .i32 0] := ⟨by kernel_rfl⟩
instance : IntTy Try.prog 175 .i32 := ⟨Try.underlying175⟩
instance : TySz Try.prog 176 false 1 4 := ⟨by kernel_rfl, by kernel_rfl⟩
instance : ConcTy Try.prog 176 := ⟨by kernel_rfl⟩
instance : TyZero Try.prog 176 [.int .i32 0] := ⟨by kernel_rfl⟩
instance : IntTy Try.prog 176 .i32 := ⟨Try.underlying176⟩
instance : TySz Try.prog 178 true 11 48 := ⟨by kernel_rfl, by kernel_rfl⟩
instance : ConcTy Try.prog 178 := ⟨by kernel_rfl⟩
instance : TyZero Try.prog 178 [.int .u64 0, .int .u64 0, .int .u32 0, .int .u8 0, .int .u8 0, .int .u8 0, .int .u8 0, .nilFunc, .pointer none, .int .i32 0, .int .i32 0] := ⟨by kernel_rfl⟩
instance : FieldOff Try.prog 178 0 0 12 := ⟨by kernel_rfl⟩
instance : FieldOff Try.prog 178 1 1 12 := ⟨by kernel_rfl⟩
instance : FieldOff Try.prog 178 2 2 137 := ⟨by kernel_rfl⟩
instance : FieldOff Try.prog 178 3 3 171 := ⟨by kernel_rfl⟩
instance : FieldOff Try.prog 178 4 4 5 := ⟨by kernel_rfl⟩
instance : FieldOff Try.prog 178 5 5 5 := ⟨by kernel_rfl⟩
instance : FieldOff Try.prog 178 6 6 172 := ⟨by kernel_rfl⟩
instance : FieldOff Try.prog 178 7 7 173 := ⟨by kernel_rfl⟩
instance : FieldOff Try.prog 178 8 8 174 := ⟨by kernel_rfl⟩
instance : FieldOff Try.prog 178 9 9 175 := ⟨by kernel_rfl⟩
instance : FieldOff Try.prog 178 10 10 176 := ⟨by kernel_rfl⟩
instance : BuildTy Try.prog 178 (fun i => (#[(0, 1), (1, 1), (2, 1), (3, 1), (4, 1), (5, 1), (6, 1), (7, 1), (8, 1), (9, 1), (10, 1)] : Array (Nat × Nat))[i]?) [.int .u64 0, .int .u64 0, .int .u32 0, .int .u8 0, .int .u8 0, .int .u8 0, .int .u8 0, .nilFunc, .pointer none, .int .i32 0, .int .i32 0] := ⟨fun _ => by kernel_rfl⟩
instance : ZeroV Try.prog 91 (.agg #[.int .i64 0, .int .i64 0, .int .i64 0, .int .i64 0, .int .i64 0, .int .i64 0, .int .i64 0, .int .i64 0, .int .i64 0, .int .i64 0, .int .i64 0, .int .i64 0, .bool false]) := ⟨by kernel_rfl⟩
instance : KeyTy Try.prog 28 [.i64, .i64] where
  dt := by kernel_rfl
  wide := by kernel_rfl
  sz := by kernel_rfl
  ng := by kernel_rfl
  ls := by
    intro is h hw
    match is, h with
    | [a0, a1], _ =>
      have c3 : Try.prog.cellsOf 3 = 1 := by kernel_rfl
      have c28 : Try.prog.cellsOf 28 = 2 := by kernel_rfl
      simp at hw
      simp [Program.keyLits, c3, c28, hw, List.range_succ] <;> rfl
instance : KeyTy Try.prog 55 [.i64, .i64, .i64] where
  dt := by kernel_rfl
  wide := by kernel_rfl
  sz := by kernel_rfl
  ng := by kernel_rfl
  ls := by
    intro is h hw
    match is, h with
    | [a0, a1, a2], _ =>
      have c3 : Try.prog.cellsOf 3 = 1 := by kernel_rfl
      have c28 : Try.prog.cellsOf 28 = 2 := by kernel_rfl
      have c55 : Try.prog.cellsOf 55 = 3 := by kernel_rfl
      simp at hw
      simp [Program.keyLits, c3, c28, c55, hw, List.range_succ] <;> rfl
instance : KeyTy Try.prog 60 [.i64, .i64, .i64] where
  dt := by kernel_rfl
  wide := by kernel_rfl
  sz := by kernel_rfl
  ng := by kernel_rfl
  ls := by
    intro is h hw
    match is, h with
    | [a0, a1, a2], _ =>
      have c3 : Try.prog.cellsOf 3 = 1 := by kernel_rfl
      have c28 : Try.prog.cellsOf 28 = 2 := by kernel_rfl
      have c60 : Try.prog.cellsOf 60 = 3 := by kernel_rfl
      simp at hw
      simp [Program.keyLits, c3, c28, c60, hw, List.range_succ] <;> rfl
instance : KeyTy Try.prog 86 [.i64, .i64, .i64] where
  dt := by kernel_rfl
  wide := by kernel_rfl
  sz := by kernel_rfl
  ng := by kernel_rfl
  ls := by
    intro is h hw
    match is, h with
    | [a0, a1, a2], _ =>
      have c3 : Try.prog.cellsOf 3 = 1 := by kernel_rfl
      have c84 : Try.prog.cellsOf 84 = 3 := by kernel_rfl
      have c86 : Try.prog.cellsOf 86 = 3 := by kernel_rfl
      simp at hw
      simp [Program.keyLits, c3, c84, c86, hw, List.range_succ] <;> rfl
instance : HasBody Try.prog 3 := ⟨by kernel_rfl⟩
instance : HasBody Try.prog 4 := ⟨by kernel_rfl⟩
instance : HasBody Try.prog 5 := ⟨by kernel_rfl⟩
instance : HasBody Try.prog 6 := ⟨by kernel_rfl⟩
instance : HasBody Try.prog 7 := ⟨by kernel_rfl⟩
instance : HasBody Try.prog 8 := ⟨by kernel_rfl⟩
instance : HasBody Try.prog 9 := ⟨by kernel_rfl⟩
instance : HasBody Try.prog 10 := ⟨by kernel_rfl⟩
instance : HasBody Try.prog 11 := ⟨by kernel_rfl⟩
instance : HasBody Try.prog 12 := ⟨by kernel_rfl⟩
instance : HasBody Try.prog 13 := ⟨by kernel_rfl⟩
instance : HasBody Try.prog 14 := ⟨by kernel_rfl⟩
instance : HasBody Try.prog 15 := ⟨by kernel_rfl⟩
instance : HasBody Try.prog 16 := ⟨by kernel_rfl⟩
instance : HasBody Try.prog 17 := ⟨by kernel_rfl⟩
instance : HasBody Try.prog 18 := ⟨by kernel_rfl⟩
instance : HasBody Try.prog 19 := ⟨by kernel_rfl⟩
instance : HasBody Try.prog 20 := ⟨by kernel_rfl⟩
instance : HasBody Try.prog 21 := ⟨by kernel_rfl⟩
instance : HasBody Try.prog 22 := ⟨by kernel_rfl⟩
instance : HasBody Try.prog 23 := ⟨by kernel_rfl⟩
instance : HasBody Try.prog 24 := ⟨by kernel_rfl⟩
instance : HasBody Try.prog 25 := ⟨by kernel_rfl⟩
instance : HasBody Try.prog 26 := ⟨by kernel_rfl⟩
instance : HasBody Try.prog 27 := ⟨by kernel_rfl⟩
instance : HasBody Try.prog 28 := ⟨by kernel_rfl⟩
instance : HasBody Try.prog 29 := ⟨by kernel_rfl⟩
instance : HasBody Try.prog 30 := ⟨by kernel_rfl⟩
instance : HasBody Try.prog 31 := ⟨by kernel_rfl⟩
instance : HasBody Try.prog 32 := ⟨by kernel_rfl⟩
instance : HasBody Try.prog 33 := ⟨by kernel_rfl⟩
instance : HasBody Try.prog 34 := ⟨by kernel_rfl⟩
instance : HasBody Try.prog 35 := ⟨by kernel_rfl⟩
instance : HasBody Try.prog 36 := ⟨by kernel_rfl⟩
instance : HasBody Try.prog 37 := ⟨by kernel_rfl⟩
instance : HasBody Try.prog 38 := ⟨by kernel_rfl⟩
instance : HasBody Try.prog 39 := ⟨by kernel_rfl⟩
instance : HasBody Try.prog 40 := ⟨by kernel_rfl⟩
instance : HasBody Try.prog 41 := ⟨by kernel_rfl⟩
instance : HasBody Try.prog 42 := ⟨by kernel_rfl⟩
instance : HasBody Try.prog 43 := ⟨by kernel_rfl⟩
instance : HasBody Try.prog 44 := ⟨by kernel_rfl⟩
instance : HasBody Try.prog 45 := ⟨by kernel_rfl⟩
instance : HasBody Try.prog 46 := ⟨by kernel_rfl⟩
instance : HasBody Try.prog 47 := ⟨by kernel_rfl⟩
instance : HasBody Try.prog 48 := ⟨by kernel_rfl⟩
instance : HasBody Try.prog 49 := ⟨by kernel_rfl⟩
instance : HasBody Try.prog 50 := ⟨by kernel_rfl⟩
instance : HasBody Try.prog 51 := ⟨by kernel_rfl⟩
instance : HasBody Try.prog 52 := ⟨by kernel_rfl⟩
instance : HasBody Try.prog 53 := ⟨by kernel_rfl⟩
instance : HasBody Try.prog 54 := ⟨by kernel_rfl⟩
instance : HasBody Try.prog 55 := ⟨by kernel_rfl⟩
instance : HasBody Try.prog 56 := ⟨by kernel_rfl⟩
instance : HasBody Try.prog 57 := ⟨by kernel_rfl⟩
instance : HasBody Try.prog 58 := ⟨by kernel_rfl⟩
instance : HasBody Try.prog 59 := ⟨by kernel_rfl⟩
instance : HasBody Try.prog 60 := ⟨by kernel_rfl⟩
instance : HasBody Try.prog 61 := ⟨by kernel_rfl⟩
instance : HasBody Try.prog 62 := ⟨by kernel_rfl⟩
instance : HasBody Try.prog 63 := ⟨by kernel_rfl⟩
instance : HasBody Try.prog 64 := ⟨by kernel_rfl⟩
instance : HasBody Try.prog 65 := ⟨by kernel_rfl⟩
instance : HasBody Try.prog 66 := ⟨by kernel_rfl⟩
instance : HasBody Try.prog 67 := ⟨by kernel_rfl⟩
instance : HasBody Try.prog 68 := ⟨by kernel_rfl⟩
instance : HasBody Try.prog 69 := ⟨by kernel_rfl⟩
instance : HasBody Try.prog 70 := ⟨by kernel_rfl⟩
instance : HasBody Try.prog 71 := ⟨by kernel_rfl⟩
instance : HasBody Try.prog 72 := ⟨by kernel_rfl⟩
instance : HasBody Try.prog 73 := ⟨by kernel_rfl⟩
instance : HasBody Try.prog 74 := ⟨by kernel_rfl⟩
instance : HasBody Try.prog 75 := ⟨by kernel_rfl⟩
instance : HasBody Try.prog 76 := ⟨by kernel_rfl⟩
instance : HasBody Try.prog 77 := ⟨by kernel_rfl⟩
instance : HasBody Try.prog 78 := ⟨by kernel_rfl⟩
instance : HasBody Try.prog 79 := ⟨by kernel_rfl⟩
instance : HasBody Try.prog 80 := ⟨by kernel_rfl⟩
instance : HasBody Try.prog 81 := ⟨by kernel_rfl⟩
instance : HasBody Try.prog 82 := ⟨by kernel_rfl⟩
instance : HasBody Try.prog 83 := ⟨by kernel_rfl⟩
instance : HasBody Try.prog 84 := ⟨by kernel_rfl⟩
instance : HasBody Try.prog 85 := ⟨by kernel_rfl⟩
instance : HasBody Try.prog 86 := ⟨by kernel_rfl⟩
instance : HasBody Try.prog 87 := ⟨by kernel_rfl⟩
instance : HasBody Try.prog 88 := ⟨by kernel_rfl⟩
instance : HasBody Try.prog 89 := ⟨by kernel_rfl⟩
instance : HasBody Try.prog 90 := ⟨by kernel_rfl⟩
instance : HasBody Try.prog 91 := ⟨by kernel_rfl⟩
instance : HasBody Try.prog 92 := ⟨by kernel_rfl⟩
instance : HasBody Try.prog 93 := ⟨by kernel_rfl⟩
instance : HasBody Try.prog 94 := ⟨by kernel_rfl⟩
instance : HasBody Try.prog 95 := ⟨by kernel_rfl⟩
instance : HasBody Try.prog 96 := ⟨by kernel_rfl⟩
instance : HasBody Try.prog 97 := ⟨by kernel_rfl⟩
instance : HasBody Try.prog 98 := ⟨by kernel_rfl⟩
instance : HasBody Try.prog 99 := ⟨by kernel_rfl⟩
instance : HasBody Try.prog 100 := ⟨by kernel_rfl⟩
instance : HasBody Try.prog 101 := ⟨by kernel_rfl⟩
instance : HasBody Try.prog 102 := ⟨by kernel_rfl⟩
instance : HasBody Try.prog 103 := ⟨by kernel_rfl⟩
instance : HasBody Try.prog 104 := ⟨by kernel_rfl⟩
instance : HasBody Try.prog 105 := ⟨by kernel_rfl⟩
instance : HasBody Try.prog 106 := ⟨by kernel_rfl⟩
instance : HasBody Try.prog 107 := ⟨by kernel_rfl⟩
instance : HasBody Try.prog 108 := ⟨by kernel_rfl⟩
instance : HasBody Try.prog 109 := ⟨by kernel_rfl⟩
instance : HasBody Try.prog 110 := ⟨by kernel_rfl⟩
instance : HasBody Try.prog 111 := ⟨by kernel_rfl⟩
instance : HasBody Try.prog 112 := ⟨by kernel_rfl⟩
instance : HasBody Try.prog 113 := ⟨by kernel_rfl⟩
instance : HasBody Try.prog 114 := ⟨by kernel_rfl⟩
instance : HasBody Try.prog 115 := ⟨by kernel_rfl⟩
instance : HasBody Try.prog 116 := ⟨by kernel_rfl⟩
instance : HasBody Try.prog 117 := ⟨by kernel_rfl⟩
instance : HasBody Try.prog 118 := ⟨by kernel_rfl⟩
instance : HasBody Try.prog 119 := ⟨by kernel_rfl⟩
instance : HasBody Try.prog 120 := ⟨by kernel_rfl⟩
instance : HasBody Try.prog 121 := ⟨by kernel_rfl⟩
instance : HasBody Try.prog 122 := ⟨by kernel_rfl⟩
instance : HasBody Try.prog 123 := ⟨by kernel_rfl⟩
instance : HasBody Try.prog 139 := ⟨by kernel_rfl⟩
instance : HasBody Try.prog 140 := ⟨by kernel_rfl⟩
end Go.Proofs.Ytkaadefndcbdnaa
