/-
  Closed facts of the program: types, sizes, bodies. Written by a program.
-/
import Derived.Test.YthbahcjkncfpdaaEngN
import Derived.Test.YthbahcjkncfpdaaProg
namespace Go.Wk
open Go.Proofs
theorem ag3 : agOf Try.prog 3 = some false := by kernel_rfl
theorem ag4 : agOf Try.prog 4 = some false := by kernel_rfl
theorem ag9 : agOf Try.prog 9 = some false := by kernel_rfl
theorem ag25 : agOf Try.prog 25 = some false := by kernel_rfl
theorem ag27 : agOf Try.prog 27 = some false := by kernel_rfl
theorem ag29 : agOf Try.prog 29 = some true := by kernel_rfl
theorem ag37 : agOf Try.prog 37 = some false := by kernel_rfl
theorem ag46 : agOf Try.prog 46 = some false := by kernel_rfl
theorem ag48 : agOf Try.prog 48 = some true := by kernel_rfl
theorem ag53 : agOf Try.prog 53 = some false := by kernel_rfl
theorem ag57 : agOf Try.prog 57 = some true := by kernel_rfl
theorem ag65 : agOf Try.prog 65 = some false := by kernel_rfl
theorem ag69 : agOf Try.prog 69 = some true := by kernel_rfl
theorem ag71 : agOf Try.prog 71 = some false := by kernel_rfl
theorem ag78 : agOf Try.prog 78 = some true := by kernel_rfl
theorem ag90 : agOf Try.prog 90 = some false := by kernel_rfl
theorem ag98 : agOf Try.prog 98 = some false := by kernel_rfl
theorem ar59 : arOf Try.prog 59 = some (2, 29) := by kernel_rfl
theorem ar78 : arOf Try.prog 78 = some (2, 71) := by kernel_rfl
theorem bd7 : bodied Try.prog 7 = true := by kernel_rfl
theorem bd8 : bodied Try.prog 8 = true := by kernel_rfl
theorem bd9 : bodied Try.prog 9 = true := by kernel_rfl
theorem bd10 : bodied Try.prog 10 = true := by kernel_rfl
theorem bd11 : bodied Try.prog 11 = true := by kernel_rfl
theorem bd12 : bodied Try.prog 12 = true := by kernel_rfl
theorem bd13 : bodied Try.prog 13 = true := by kernel_rfl
theorem bd14 : bodied Try.prog 14 = true := by kernel_rfl
theorem bd15 : bodied Try.prog 15 = true := by kernel_rfl
theorem bd16 : bodied Try.prog 16 = true := by kernel_rfl
theorem bd17 : bodied Try.prog 17 = true := by kernel_rfl
theorem bd18 : bodied Try.prog 18 = true := by kernel_rfl
theorem bd19 : bodied Try.prog 19 = true := by kernel_rfl
theorem bd20 : bodied Try.prog 20 = true := by kernel_rfl
theorem bd21 : bodied Try.prog 21 = true := by kernel_rfl
theorem bd22 : bodied Try.prog 22 = true := by kernel_rfl
theorem bd23 : bodied Try.prog 23 = true := by kernel_rfl
theorem bd24 : bodied Try.prog 24 = true := by kernel_rfl
theorem bd25 : bodied Try.prog 25 = true := by kernel_rfl
theorem bd26 : bodied Try.prog 26 = true := by kernel_rfl
theorem bd27 : bodied Try.prog 27 = true := by kernel_rfl
theorem bd28 : bodied Try.prog 28 = true := by kernel_rfl
theorem bd29 : bodied Try.prog 29 = true := by kernel_rfl
theorem bd30 : bodied Try.prog 30 = true := by kernel_rfl
theorem bd31 : bodied Try.prog 31 = true := by kernel_rfl
theorem bd32 : bodied Try.prog 32 = true := by kernel_rfl
theorem bd33 : bodied Try.prog 33 = true := by kernel_rfl
theorem bd34 : bodied Try.prog 34 = true := by kernel_rfl
theorem bd35 : bodied Try.prog 35 = true := by kernel_rfl
theorem bd36 : bodied Try.prog 36 = true := by kernel_rfl
theorem bd37 : bodied Try.prog 37 = true := by kernel_rfl
theorem bd38 : bodied Try.prog 38 = true := by kernel_rfl
theorem bd39 : bodied Try.prog 39 = true := by kernel_rfl
theorem bd40 : bodied Try.prog 40 = true := by kernel_rfl
theorem bd41 : bodied Try.prog 41 = true := by kernel_rfl
theorem bd42 : bodied Try.prog 42 = true := by kernel_rfl
theorem bd45 : bodied Try.prog 45 = true := by kernel_rfl
theorem bd46 : bodied Try.prog 46 = true := by kernel_rfl
theorem bd47 : bodied Try.prog 47 = true := by kernel_rfl
theorem bd48 : bodied Try.prog 48 = true := by kernel_rfl
theorem bd49 : bodied Try.prog 49 = true := by kernel_rfl
theorem bd50 : bodied Try.prog 50 = true := by kernel_rfl
theorem bd51 : bodied Try.prog 51 = true := by kernel_rfl
theorem bd52 : bodied Try.prog 52 = true := by kernel_rfl
theorem bd53 : bodied Try.prog 53 = true := by kernel_rfl
theorem bd55 : bodied Try.prog 55 = true := by kernel_rfl
theorem bd56 : bodied Try.prog 56 = true := by kernel_rfl
theorem bd57 : bodied Try.prog 57 = true := by kernel_rfl
theorem bd58 : bodied Try.prog 58 = true := by kernel_rfl
theorem bo4 : boOf Try.prog 4 = true := by kernel_rfl
theorem fo29_0 : foOf Try.prog 29 0 = some 0 := by kernel_rfl
theorem fo29_1 : foOf Try.prog 29 1 = some 1 := by kernel_rfl
theorem fo29_2 : foOf Try.prog 29 2 = some 2 := by kernel_rfl
theorem fo33_0 : foOf Try.prog 33 0 = some 0 := by kernel_rfl
theorem fo48_0 : foOf Try.prog 48 0 = some 0 := by kernel_rfl
theorem fo57_0 : foOf Try.prog 57 0 = some 0 := by kernel_rfl
theorem fo57_1 : foOf Try.prog 57 1 = some 1 := by kernel_rfl
theorem fo67_0 : foOf Try.prog 67 0 = some 0 := by kernel_rfl
theorem fo69_0 : foOf Try.prog 69 0 = some 0 := by kernel_rfl
theorem fo69_1 : foOf Try.prog 69 1 = some 1 := by kernel_rfl
theorem it3_i64 : itOf Try.prog 3 .i64 = true := by kernel_rfl
theorem it5_u8 : itOf Try.prog 5 .u8 = true := by kernel_rfl
theorem it107_u64 : itOf Try.prog 107 .u64 = true := by kernel_rfl
theorem mp27 : mpOf Try.prog 27 = some (9, 33) := by kernel_rfl
theorem pl33 : plOf Try.prog 33 = some [(0, 1)] := by kernel_rfl
theorem pl48 : plOf Try.prog 48 = some [(0, 1)] := by kernel_rfl
theorem pl57 : plOf Try.prog 57 = some [(0, 1), (1, 1)] := by kernel_rfl
theorem pl67 : plOf Try.prog 67 = some [(0, 1)] := by kernel_rfl
theorem pl69 : plOf Try.prog 69 = some [(0, 1), (1, 1)] := by kernel_rfl
theorem pt25 : ptOf Try.prog 25 = true := by kernel_rfl
theorem sl22 : slOf Try.prog 22 = some 29 := by kernel_rfl
theorem sl35 : slOf Try.prog 35 = some 37 := by kernel_rfl
theorem sl37 : slOf Try.prog 37 = some 9 := by kernel_rfl
theorem sl46 : slOf Try.prog 46 = some 53 := by kernel_rfl
theorem sl53 : slOf Try.prog 53 = some 57 := by kernel_rfl
theorem sl55 : slOf Try.prog 55 = some 5 := by kernel_rfl
theorem sl64 : slOf Try.prog 64 = some 71 := by kernel_rfl
theorem sl65 : slOf Try.prog 65 = some 71 := by kernel_rfl
theorem sl70 : slOf Try.prog 70 = some 69 := by kernel_rfl
theorem sl71 : slOf Try.prog 71 = some 69 := by kernel_rfl
theorem sl102 : slOf Try.prog 102 = some 65 := by kernel_rfl
theorem st9 : stOf Try.prog 9 = true := by kernel_rfl
theorem sz3 : szOf Try.prog 3 = some 1 := by kernel_rfl
theorem sz4 : szOf Try.prog 4 = some 1 := by kernel_rfl
theorem sz5 : szOf Try.prog 5 = some 1 := by kernel_rfl
theorem sz9 : szOf Try.prog 9 = some 1 := by kernel_rfl
theorem sz25 : szOf Try.prog 25 = some 1 := by kernel_rfl
theorem sz27 : szOf Try.prog 27 = some 1 := by kernel_rfl
theorem sz29 : szOf Try.prog 29 = some 3 := by kernel_rfl
theorem sz33 : szOf Try.prog 33 = some 1 := by kernel_rfl
theorem sz37 : szOf Try.prog 37 = some 1 := by kernel_rfl
theorem sz48 : szOf Try.prog 48 = some 1 := by kernel_rfl
theorem sz53 : szOf Try.prog 53 = some 1 := by kernel_rfl
theorem sz57 : szOf Try.prog 57 = some 2 := by kernel_rfl
theorem sz65 : szOf Try.prog 65 = some 1 := by kernel_rfl
theorem sz69 : szOf Try.prog 69 = some 2 := by kernel_rfl
theorem sz71 : szOf Try.prog 71 = some 1 := by kernel_rfl
theorem sz78 : szOf Try.prog 78 = some 2 := by kernel_rfl
theorem zr3 : zrOf Try.prog 3 = some (.int .i64 0) := by kernel_rfl
theorem zr4 : zrOf Try.prog 4 = some (.bool false) := by kernel_rfl
theorem zr5 : zrOf Try.prog 5 = some (.int .u8 0) := by kernel_rfl
theorem zr9 : zrOf Try.prog 9 = some (.string ⟨#[]⟩) := by kernel_rfl
theorem zr25 : zrOf Try.prog 25 = some (.pointer none) := by kernel_rfl
theorem zr27 : zrOf Try.prog 27 = some (.map none) := by kernel_rfl
theorem zr33 : zrOf Try.prog 33 = some (.agg #[.string ⟨#[]⟩]) := by kernel_rfl
theorem zr37 : zrOf Try.prog 37 = some (.slice none 0 0) := by kernel_rfl
theorem zr48 : zrOf Try.prog 48 = some (.agg #[.slice none 0 0]) := by kernel_rfl
theorem zr53 : zrOf Try.prog 53 = some (.slice none 0 0) := by kernel_rfl
theorem zr57 : zrOf Try.prog 57 = some (.agg #[.string ⟨#[]⟩, .string ⟨#[]⟩]) := by kernel_rfl
theorem zr65 : zrOf Try.prog 65 = some (.slice none 0 0) := by kernel_rfl
theorem zr67 : zrOf Try.prog 67 = some (.agg #[.slice none 0 0]) := by kernel_rfl
theorem zr69 : zrOf Try.prog 69 = some (.agg #[.string ⟨#[]⟩, .string ⟨#[]⟩]) := by kernel_rfl
theorem zr71 : zrOf Try.prog 71 = some (.slice none 0 0) := by kernel_rfl
theorem zr78 : zrOf Try.prog 78 = some (.agg #[.slice none 0 0, .slice none 0 0]) := by kernel_rfl
theorem ap35 : App Try.prog 35 37 1 24 (.slice none 0 0) := ⟨sl35, sz37, zr37, by as_aux_lemma => kernel_rfl, rfl, by simp [Value.cells, Value.oneCell'], by decide⟩
theorem ap37 : App Try.prog 37 9 1 16 (.string ⟨#[]⟩) := ⟨sl37, sz9, zr9, by as_aux_lemma => kernel_rfl, rfl, by simp [Value.cells, Value.oneCell'], by decide⟩
theorem ap46 : App Try.prog 46 53 1 24 (.slice none 0 0) := ⟨sl46, sz53, zr53, by as_aux_lemma => kernel_rfl, rfl, by simp [Value.cells, Value.oneCell'], by decide⟩
theorem ap53 : App Try.prog 53 57 2 32 (.agg #[.string ⟨#[]⟩, .string ⟨#[]⟩]) := ⟨sl53, sz57, zr57, by as_aux_lemma => kernel_rfl, rfl, by simp [Value.cells, Value.oneCell'], by decide⟩
theorem ap55 : App Try.prog 55 5 1 1 (.int .u8 0) := ⟨sl55, sz5, zr5, by as_aux_lemma => kernel_rfl, rfl, by simp [Value.cells, Value.oneCell'], by decide⟩
theorem ap64 : App Try.prog 64 71 1 24 (.slice none 0 0) := ⟨sl64, sz71, zr71, by as_aux_lemma => kernel_rfl, rfl, by simp [Value.cells, Value.oneCell'], by decide⟩
theorem ap65 : App Try.prog 65 71 1 24 (.slice none 0 0) := ⟨sl65, sz71, zr71, by as_aux_lemma => kernel_rfl, rfl, by simp [Value.cells, Value.oneCell'], by decide⟩
theorem ap70 : App Try.prog 70 69 2 32 (.agg #[.string ⟨#[]⟩, .string ⟨#[]⟩]) := ⟨sl70, sz69, zr69, by as_aux_lemma => kernel_rfl, rfl, by simp [Value.cells, Value.oneCell'], by decide⟩
theorem ap71 : App Try.prog 71 69 2 32 (.agg #[.string ⟨#[]⟩, .string ⟨#[]⟩]) := ⟨sl71, sz69, zr69, by as_aux_lemma => kernel_rfl, rfl, by simp [Value.cells, Value.oneCell'], by decide⟩
theorem ap102 : App Try.prog 102 65 1 24 (.slice none 0 0) := ⟨sl102, sz65, zr65, by as_aux_lemma => kernel_rfl, rfl, by simp [Value.cells, Value.oneCell'], by decide⟩
theorem mix : Try.prog.follows .mixedOrders = true := by kernel_rfl
end Go.Wk
