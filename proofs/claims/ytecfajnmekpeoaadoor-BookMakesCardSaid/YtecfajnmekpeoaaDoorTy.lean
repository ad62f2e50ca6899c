/-
  Facts on this seat's table of types, each a closed one. Conditions: none.
-/
import Derived.Test.YtecfajnmekpeoaaDoorSv
import Derived.Test.YtecfajnmekpeoaaDoorProg
namespace Go.Proofs.YtecfajnmekpeoaaDoor
theorem ty1_2 : oneB Tryd.prog 2 = true := by kernel_rfl
theorem tyz_2 : sizeB Tryd.prog 2 1 = true := by kernel_rfl
theorem tyc_2_3 : cvB Tryd.prog 2 3 .i64 = true := by kernel_rfl
theorem tyc_2_5 : cvB Tryd.prog 2 5 .u8 = true := by kernel_rfl
theorem tyc_2_21 : cvB Tryd.prog 2 21 .i32 = true := by kernel_rfl
theorem tyc_2_42 : cvB Tryd.prog 2 42 .i64 = true := by kernel_rfl
theorem tyc_2_67 : cvB Tryd.prog 2 67 .u64 = true := by kernel_rfl
theorem tyc_2_73 : cvB Tryd.prog 2 73 .i64 = true := by kernel_rfl
theorem tyc_2_80 : cvB Tryd.prog 2 80 .u32 = true := by kernel_rfl
theorem tyc_2_82 : cvB Tryd.prog 2 82 .u64 = true := by kernel_rfl
theorem tyc_2_83 : cvB Tryd.prog 2 83 .u64 = true := by kernel_rfl
theorem ty1_3 : oneB Tryd.prog 3 = true := by kernel_rfl
theorem tyz_3 : sizeB Tryd.prog 3 1 = true := by kernel_rfl
theorem tyc_3_2 : cvB Tryd.prog 3 2 .i64 = true := by kernel_rfl
theorem tyc_3_5 : cvB Tryd.prog 3 5 .u8 = true := by kernel_rfl
theorem tyc_3_21 : cvB Tryd.prog 3 21 .i32 = true := by kernel_rfl
theorem tyc_3_42 : cvB Tryd.prog 3 42 .i64 = true := by kernel_rfl
theorem tyc_3_67 : cvB Tryd.prog 3 67 .u64 = true := by kernel_rfl
theorem tyc_3_73 : cvB Tryd.prog 3 73 .i64 = true := by kernel_rfl
theorem tyc_3_80 : cvB Tryd.prog 3 80 .u32 = true := by kernel_rfl
theorem tyc_3_82 : cvB Tryd.prog 3 82 .u64 = true := by kernel_rfl
theorem tyc_3_83 : cvB Tryd.prog 3 83 .u64 = true := by kernel_rfl
theorem ty1_4 : oneB Tryd.prog 4 = true := by kernel_rfl
theorem tyz_4 : sizeB Tryd.prog 4 1 = true := by kernel_rfl
theorem tyo_4 : isT Tryd.prog 4 (fun x => x matches .bool) = true := by kernel_rfl
theorem ty1_5 : oneB Tryd.prog 5 = true := by kernel_rfl
theorem tyz_5 : sizeB Tryd.prog 5 1 = true := by kernel_rfl
theorem tyc_5_2 : cvB Tryd.prog 5 2 .i64 = true := by kernel_rfl
theorem tyc_5_3 : cvB Tryd.prog 5 3 .i64 = true := by kernel_rfl
theorem tyc_5_21 : cvB Tryd.prog 5 21 .i32 = true := by kernel_rfl
theorem tyc_5_42 : cvB Tryd.prog 5 42 .i64 = true := by kernel_rfl
theorem tyc_5_67 : cvB Tryd.prog 5 67 .u64 = true := by kernel_rfl
theorem tyc_5_73 : cvB Tryd.prog 5 73 .i64 = true := by kernel_rfl
theorem tyc_5_80 : cvB Tryd.prog 5 80 .u32 = true := by kernel_rfl
theorem tyc_5_82 : cvB Tryd.prog 5 82 .u64 = true := by kernel_rfl
theorem tyc_5_83 : cvB Tryd.prog 5 83 .u64 = true := by kernel_rfl
theorem ty1_9 : oneB Tryd.prog 9 = true := by kernel_rfl
theorem tyz_9 : sizeB Tryd.prog 9 1 = true := by kernel_rfl
theorem tys_9 : isT Tryd.prog 9 (fun x => x matches .string) = true := by kernel_rfl
theorem ty1_20 : oneB Tryd.prog 20 = true := by kernel_rfl
theorem tyz_20 : sizeB Tryd.prog 20 1 = true := by kernel_rfl
theorem ty1_21 : oneB Tryd.prog 21 = true := by kernel_rfl
theorem tyz_21 : sizeB Tryd.prog 21 1 = true := by kernel_rfl
theorem tyc_21_2 : cvB Tryd.prog 21 2 .i64 = true := by kernel_rfl
theorem tyc_21_3 : cvB Tryd.prog 21 3 .i64 = true := by kernel_rfl
theorem tyc_21_5 : cvB Tryd.prog 21 5 .u8 = true := by kernel_rfl
theorem tyc_21_42 : cvB Tryd.prog 21 42 .i64 = true := by kernel_rfl
theorem tyc_21_67 : cvB Tryd.prog 21 67 .u64 = true := by kernel_rfl
theorem tyc_21_73 : cvB Tryd.prog 21 73 .i64 = true := by kernel_rfl
theorem tyc_21_80 : cvB Tryd.prog 21 80 .u32 = true := by kernel_rfl
theorem tyc_21_82 : cvB Tryd.prog 21 82 .u64 = true := by kernel_rfl
theorem tyc_21_83 : cvB Tryd.prog 21 83 .u64 = true := by kernel_rfl
theorem tya_22 : aggB Tryd.prog 22 6 = true := by kernel_rfl
theorem tyz_22 : sizeB Tryd.prog 22 6 = true := by kernel_rfl
theorem tyf_22_0 : faB Tryd.prog 22 0 0 = true := by kernel_rfl
theorem tyd_22_0 : fdB Tryd.prog 22 0 0 = true := by kernel_rfl
theorem tyf_22_1 : faB Tryd.prog 22 1 1 = true := by kernel_rfl
theorem tyd_22_1 : fdB Tryd.prog 22 1 1 = true := by kernel_rfl
theorem tyf_22_2 : faB Tryd.prog 22 2 2 = true := by kernel_rfl
theorem tyd_22_2 : fdB Tryd.prog 22 2 2 = true := by kernel_rfl
theorem tyf_22_3 : faB Tryd.prog 22 3 3 = true := by kernel_rfl
theorem tyd_22_3 : fdB Tryd.prog 22 3 3 = true := by kernel_rfl
theorem tyf_22_4 : faB Tryd.prog 22 4 4 = true := by kernel_rfl
theorem tyd_22_4 : fdB Tryd.prog 22 4 4 = true := by kernel_rfl
theorem tyf_22_5 : faB Tryd.prog 22 5 5 = true := by kernel_rfl
theorem tyd_22_5 : fdB Tryd.prog 22 5 5 = true := by kernel_rfl
theorem tyb_22 (ps : List (Nat × Value)) : Tryd.prog.built 22 ps = Instr.fill (fun i => [(0, 1), (1, 1), (2, 1), (3, 1), (4, 1), (5, 1)].toArray[i]?) #[.int .i64 0, .int .i64 0, .int .i64 0, .int .u8 0, .int .i64 0, .int .i64 0] ps := by kernel_rfl
theorem tyv_22 (w : World) : (zeroValue 22).run Tryd.prog w = .ok (.agg #[.int .i64 0, .int .i64 0, .int .i64 0, .int .u8 0, .int .i64 0, .int .i64 0]) w := by kernel_rfl
theorem tya_23 : aggB Tryd.prog 23 6 = true := by kernel_rfl
theorem tyz_23 : sizeB Tryd.prog 23 6 = true := by kernel_rfl
theorem tyf_23_0 : faB Tryd.prog 23 0 0 = true := by kernel_rfl
theorem tyd_23_0 : fdB Tryd.prog 23 0 0 = true := by kernel_rfl
theorem tyf_23_1 : faB Tryd.prog 23 1 1 = true := by kernel_rfl
theorem tyd_23_1 : fdB Tryd.prog 23 1 1 = true := by kernel_rfl
theorem tyf_23_2 : faB Tryd.prog 23 2 2 = true := by kernel_rfl
theorem tyd_23_2 : fdB Tryd.prog 23 2 2 = true := by kernel_rfl
theorem tyf_23_3 : faB Tryd.prog 23 3 3 = true := by kernel_rfl
theorem tyd_23_3 : fdB Tryd.prog 23 3 3 = true := by kernel_rfl
theorem tyf_23_4 : faB Tryd.prog 23 4 4 = true := by kernel_rfl
theorem tyd_23_4 : fdB Tryd.prog 23 4 4 = true := by kernel_rfl
theorem tyf_23_5 : faB Tryd.prog 23 5 5 = true := by kernel_rfl
theorem tyd_23_5 : fdB Tryd.prog 23 5 5 = true := by kernel_rfl
theorem tyb_23 (ps : List (Nat × Value)) : Tryd.prog.built 23 ps = Instr.fill (fun i => [(0, 1), (1, 1), (2, 1), (3, 1), (4, 1), (5, 1)].toArray[i]?) #[.int .i64 0, .int .i64 0, .int .i64 0, .int .u8 0, .int .i64 0, .int .i64 0] ps := by kernel_rfl
theorem tyv_23 (w : World) : (zeroValue 23).run Tryd.prog w = .ok (.agg #[.int .i64 0, .int .i64 0, .int .i64 0, .int .u8 0, .int .i64 0, .int .i64 0]) w := by kernel_rfl
theorem ty1_31 : oneB Tryd.prog 31 = true := by kernel_rfl
theorem tyz_31 : sizeB Tryd.prog 31 1 = true := by kernel_rfl
theorem tysl_31 : slB Tryd.prog 31 6 = true := by kernel_rfl
theorem ty1_42 : oneB Tryd.prog 42 = true := by kernel_rfl
theorem tyz_42 : sizeB Tryd.prog 42 1 = true := by kernel_rfl
theorem tyc_42_2 : cvB Tryd.prog 42 2 .i64 = true := by kernel_rfl
theorem tyc_42_3 : cvB Tryd.prog 42 3 .i64 = true := by kernel_rfl
theorem tyc_42_5 : cvB Tryd.prog 42 5 .u8 = true := by kernel_rfl
theorem tyc_42_21 : cvB Tryd.prog 42 21 .i32 = true := by kernel_rfl
theorem tyc_42_67 : cvB Tryd.prog 42 67 .u64 = true := by kernel_rfl
theorem tyc_42_73 : cvB Tryd.prog 42 73 .i64 = true := by kernel_rfl
theorem tyc_42_80 : cvB Tryd.prog 42 80 .u32 = true := by kernel_rfl
theorem tyc_42_82 : cvB Tryd.prog 42 82 .u64 = true := by kernel_rfl
theorem tyc_42_83 : cvB Tryd.prog 42 83 .u64 = true := by kernel_rfl
theorem ty1_67 : oneB Tryd.prog 67 = true := by kernel_rfl
theorem tyz_67 : sizeB Tryd.prog 67 1 = true := by kernel_rfl
theorem tyc_67_2 : cvB Tryd.prog 67 2 .i64 = true := by kernel_rfl
theorem tyc_67_3 : cvB Tryd.prog 67 3 .i64 = true := by kernel_rfl
theorem tyc_67_5 : cvB Tryd.prog 67 5 .u8 = true := by kernel_rfl
theorem tyc_67_21 : cvB Tryd.prog 67 21 .i32 = true := by kernel_rfl
theorem tyc_67_42 : cvB Tryd.prog 67 42 .i64 = true := by kernel_rfl
theorem tyc_67_73 : cvB Tryd.prog 67 73 .i64 = true := by kernel_rfl
theorem tyc_67_80 : cvB Tryd.prog 67 80 .u32 = true := by kernel_rfl
theorem tyc_67_82 : cvB Tryd.prog 67 82 .u64 = true := by kernel_rfl
theorem tyc_67_83 : cvB Tryd.prog 67 83 .u64 = true := by kernel_rfl
theorem ty1_70 : oneB Tryd.prog 70 = true := by kernel_rfl
theorem tyz_70 : sizeB Tryd.prog 70 1 = true := by kernel_rfl
theorem tysl_70 : slB Tryd.prog 70 1 = true := by kernel_rfl
theorem ty1_73 : oneB Tryd.prog 73 = true := by kernel_rfl
theorem tyz_73 : sizeB Tryd.prog 73 1 = true := by kernel_rfl
theorem tyc_73_2 : cvB Tryd.prog 73 2 .i64 = true := by kernel_rfl
theorem tyc_73_3 : cvB Tryd.prog 73 3 .i64 = true := by kernel_rfl
theorem tyc_73_5 : cvB Tryd.prog 73 5 .u8 = true := by kernel_rfl
theorem tyc_73_21 : cvB Tryd.prog 73 21 .i32 = true := by kernel_rfl
theorem tyc_73_42 : cvB Tryd.prog 73 42 .i64 = true := by kernel_rfl
theorem tyc_73_67 : cvB Tryd.prog 73 67 .u64 = true := by kernel_rfl
theorem tyc_73_80 : cvB Tryd.prog 73 80 .u32 = true := by kernel_rfl
theorem tyc_73_82 : cvB Tryd.prog 73 82 .u64 = true := by kernel_rfl
theorem tyc_73_83 : cvB Tryd.prog 73 83 .u64 = true := by kernel_rfl
theorem ty1_80 : oneB Tryd.prog 80 = true := by kernel_rfl
theorem tyz_80 : sizeB Tryd.prog 80 1 = true := by kernel_rfl
theorem tyc_80_2 : cvB Tryd.prog 80 2 .i64 = true := by kernel_rfl
theorem tyc_80_3 : cvB Tryd.prog 80 3 .i64 = true := by kernel_rfl
theorem tyc_80_5 : cvB Tryd.prog 80 5 .u8 = true := by kernel_rfl
theorem tyc_80_21 : cvB Tryd.prog 80 21 .i32 = true := by kernel_rfl
theorem tyc_80_42 : cvB Tryd.prog 80 42 .i64 = true := by kernel_rfl
theorem tyc_80_67 : cvB Tryd.prog 80 67 .u64 = true := by kernel_rfl
theorem tyc_80_73 : cvB Tryd.prog 80 73 .i64 = true := by kernel_rfl
theorem tyc_80_82 : cvB Tryd.prog 80 82 .u64 = true := by kernel_rfl
theorem tyc_80_83 : cvB Tryd.prog 80 83 .u64 = true := by kernel_rfl
theorem ty1_82 : oneB Tryd.prog 82 = true := by kernel_rfl
theorem tyz_82 : sizeB Tryd.prog 82 1 = true := by kernel_rfl
theorem tyc_82_2 : cvB Tryd.prog 82 2 .i64 = true := by kernel_rfl
theorem tyc_82_3 : cvB Tryd.prog 82 3 .i64 = true := by kernel_rfl
theorem tyc_82_5 : cvB Tryd.prog 82 5 .u8 = true := by kernel_rfl
theorem tyc_82_21 : cvB Tryd.prog 82 21 .i32 = true := by kernel_rfl
theorem tyc_82_42 : cvB Tryd.prog 82 42 .i64 = true := by kernel_rfl
theorem tyc_82_67 : cvB Tryd.prog 82 67 .u64 = true := by kernel_rfl
theorem tyc_82_73 : cvB Tryd.prog 82 73 .i64 = true := by kernel_rfl
theorem tyc_82_80 : cvB Tryd.prog 82 80 .u32 = true := by kernel_rfl
theorem tyc_82_83 : cvB Tryd.prog 82 83 .u64 = true := by kernel_rfl
theorem ty1_83 : oneB Tryd.prog 83 = true := by kernel_rfl
theorem tyz_83 : sizeB Tryd.prog 83 1 = true := by kernel_rfl
theorem tyc_83_2 : cvB Tryd.prog 83 2 .i64 = true := by kernel_rfl
theorem tyc_83_3 : cvB Tryd.prog 83 3 .i64 = true := by kernel_rfl
theorem tyc_83_5 : cvB Tryd.prog 83 5 .u8 = true := by kernel_rfl
theorem tyc_83_21 : cvB Tryd.prog 83 21 .i32 = true := by kernel_rfl
theorem tyc_83_42 : cvB Tryd.prog 83 42 .i64 = true := by kernel_rfl
theorem tyc_83_67 : cvB Tryd.prog 83 67 .u64 = true := by kernel_rfl
theorem tyc_83_73 : cvB Tryd.prog 83 73 .i64 = true := by kernel_rfl
theorem tyc_83_80 : cvB Tryd.prog 83 80 .u32 = true := by kernel_rfl
theorem tyc_83_82 : cvB Tryd.prog 83 82 .u64 = true := by kernel_rfl
theorem ty1_87 : oneB Tryd.prog 87 = true := by kernel_rfl
theorem tyz_87 : sizeB Tryd.prog 87 1 = true := by kernel_rfl
theorem ty1_89 : oneB Tryd.prog 89 = true := by kernel_rfl
theorem tyz_89 : sizeB Tryd.prog 89 1 = true := by kernel_rfl
theorem ty1_102 : oneB Tryd.prog 102 = true := by kernel_rfl
theorem tyz_102 : sizeB Tryd.prog 102 1 = true := by kernel_rfl
end Go.Proofs.YtecfajnmekpeoaaDoor
