
/- The chapter's rows ("geode/geodelaw19.known"), by the reckoner: run by the kernel, true. -/
import Derived.Test.YthdbddolkfibkaaGreatDoorEvX
import Derived.Test.YthdbddolkfibkaaGreatDoorRows
set_option linter.unusedSimpArgs false
set_option linter.unusedVariables false
namespace Go.Proofs.YthdbddolkfibkaaGreatDoor
open Go.RowKit
noncomputable def knFn : List (Nat × Func) := [(4, Tryz.f4), (5, Tryz.f5), (6, Tryz.f6), (10, Tryz.f10), (11, Tryz.f11), (12, Tryz.f12), (13, Tryz.f13), (14, Tryz.f14), (16, Tryz.f16), (17, Tryz.f17), (18, Tryz.f18), (19, Tryz.f19), (20, Tryz.f20), (21, Tryz.f21), (22, Tryz.f22), (23, Tryz.f23), (24, Tryz.f24), (27, Tryz.f27), (28, Tryz.f28), (29, Tryz.f29), (30, Tryz.f30), (31, Tryz.f31), (32, Tryz.f32), (33, Tryz.f33), (34, Tryz.f34), (35, Tryz.f35), (36, Tryz.f36), (37, Tryz.f37), (38, Tryz.f38), (39, Tryz.f39), (40, Tryz.f40), (41, Tryz.f41), (42, Tryz.f42), (43, Tryz.f43), (44, Tryz.f44), (52, Tryz.f52), (53, Tryz.f53), (54, Tryz.f54), (58, Tryz.f58), (59, Tryz.f59), (60, Tryz.f60), (61, Tryz.f61), (62, Tryz.f62), (63, Tryz.f63), (64, Tryz.f64), (66, Tryz.f66), (67, Tryz.f67), (68, Tryz.f68), (69, Tryz.f69), (70, Tryz.f70), (71, Tryz.f71), (72, Tryz.f72), (74, Tryz.f74), (75, Tryz.f75), (76, Tryz.f76), (77, Tryz.f77), (78, Tryz.f78), (80, Tryz.f80), (83, Tryz.f83), (90, Tryz.f90), (92, Tryz.f92), (93, Tryz.f93), (94, Tryz.f94), (97, Tryz.f97), (102, Tryz.f102), (103, Tryz.f103), (104, Tryz.f104), (105, Tryz.f105), (106, Tryz.f106), (107, Tryz.f107), (108, Tryz.f108), (109, Tryz.f109), (110, Tryz.f110), (111, Tryz.f111), (112, Tryz.f112), (113, Tryz.f113), (117, Tryz.f117), (118, Tryz.f118), (122, Tryz.f122), (123, Tryz.f123), (124, Tryz.f124), (126, Tryz.f126), (127, Tryz.f127), (128, Tryz.f128), (131, Tryz.f131), (138, Tryz.f138), (139, Tryz.f139), (140, Tryz.f140), (141, Tryz.f141), (142, Tryz.f142), (143, Tryz.f143), (144, Tryz.f144), (145, Tryz.f145), (159, Tryz.f159), (166, Tryz.f166), (186, Tryz.f186), (188, Tryz.f188), (189, Tryz.f189), (217, Tryz.f217), (219, Tryz.f219), (220, Tryz.f220), (250, Tryz.f250), (251, Tryz.f251), (252, Tryz.f252), (253, Tryz.f253), (263, Tryz.f263), (264, Tryz.f264), (266, Tryz.f266), (273, Tryz.f273), (277, Tryz.f277), (287, Tryz.f287), (289, Tryz.f289), (312, Tryz.f312)]
theorem knFn_ok : ∀ p, p ∈ knFn → Tryz.prog.funcs[p.1]? = some p.2 ∧ (p.2.name == "runtime.NumGoroutine") = false := by
  intro p hp
  simp only [knFn, List.mem_cons, List.not_mem_nil, or_false] at hp
  rcases hp with rfl | rfl | rfl | rfl | rfl | rfl | rfl | rfl | rfl | rfl | rfl | rfl | rfl | rfl | rfl | rfl | rfl | rfl | rfl | rfl | rfl | rfl | rfl | rfl | rfl | rfl | rfl | rfl | rfl | rfl | rfl | rfl | rfl | rfl | rfl | rfl | rfl | rfl | rfl | rfl | rfl | rfl | rfl | rfl | rfl | rfl | rfl | rfl | rfl | rfl | rfl | rfl | rfl | rfl | rfl | rfl | rfl | rfl | rfl | rfl | rfl | rfl | rfl | rfl | rfl | rfl | rfl | rfl | rfl | rfl | rfl | rfl | rfl | rfl | rfl | rfl | rfl | rfl | rfl | rfl | rfl | rfl | rfl | rfl | rfl | rfl | rfl | rfl | rfl | rfl | rfl | rfl | rfl | rfl | rfl | rfl | rfl | rfl | rfl | rfl | rfl | rfl | rfl | rfl | rfl | rfl | rfl | rfl | rfl | rfl | rfl | rfl | rfl
  · exact ⟨Tryz.func4, by kernel_rfl⟩
  · exact ⟨Tryz.func5, by kernel_rfl⟩
  · exact ⟨Tryz.func6, by kernel_rfl⟩
  · exact ⟨Tryz.func10, by kernel_rfl⟩
  · exact ⟨Tryz.func11, by kernel_rfl⟩
  · exact ⟨Tryz.func12, by kernel_rfl⟩
  · exact ⟨Tryz.func13, by kernel_rfl⟩
  · exact ⟨Tryz.func14, by kernel_rfl⟩
  · exact ⟨Tryz.func16, by kernel_rfl⟩
  · exact ⟨Tryz.func17, by kernel_rfl⟩
  · exact ⟨Tryz.func18, by kernel_rfl⟩
  · exact ⟨Tryz.func19, by kernel_rfl⟩
  · exact ⟨Tryz.func20, by kernel_rfl⟩
  · exact ⟨Tryz.func21, by kernel_rfl⟩
  · exact ⟨Tryz.func22, by kernel_rfl⟩
  · exact ⟨Tryz.func23, by kernel_rfl⟩
  · exact ⟨Tryz.func24, by kernel_rfl⟩
  · exact ⟨Tryz.func27, by kernel_rfl⟩
  · exact ⟨Tryz.func28, by kernel_rfl⟩
  · exact ⟨Tryz.func29, by kernel_rfl⟩
  · exact ⟨Tryz.func30, by kernel_rfl⟩
  · exact ⟨Tryz.func31, by kernel_rfl⟩
  · exact ⟨Tryz.func32, by kernel_rfl⟩
  · exact ⟨Tryz.func33, by kernel_rfl⟩
  · exact ⟨Tryz.func34, by kernel_rfl⟩
  · exact ⟨Tryz.func35, by kernel_rfl⟩
  · exact ⟨Tryz.func36, by kernel_rfl⟩
  · exact ⟨Tryz.func37, by kernel_rfl⟩
  · exact ⟨Tryz.func38, by kernel_rfl⟩
  · exact ⟨Tryz.func39, by kernel_rfl⟩
  · exact ⟨Tryz.func40, by kernel_rfl⟩
  · exact ⟨Tryz.func41, by kernel_rfl⟩
  · exact ⟨Tryz.func42, by kernel_rfl⟩
  · exact ⟨Tryz.func43, by kernel_rfl⟩
  · exact ⟨Tryz.func44, by kernel_rfl⟩
  · exact ⟨Tryz.func52, by kernel_rfl⟩
  · exact ⟨Tryz.func53, by kernel_rfl⟩
  · exact ⟨Tryz.func54, by kernel_rfl⟩
  · exact ⟨Tryz.func58, by kernel_rfl⟩
  · exact ⟨Tryz.func59, by kernel_rfl⟩
  · exact ⟨Tryz.func60, by kernel_rfl⟩
  · exact ⟨Tryz.func61, by kernel_rfl⟩
  · exact ⟨Tryz.func62, by kernel_rfl⟩
  · exact ⟨Tryz.func63, by kernel_rfl⟩
  · exact ⟨Tryz.func64, by kernel_rfl⟩
  · exact ⟨Tryz.func66, by kernel_rfl⟩
  · exact ⟨Tryz.func67, by kernel_rfl⟩
  · exact ⟨Tryz.func68, by kernel_rfl⟩
  · exact ⟨Tryz.func69, by kernel_rfl⟩
  · exact ⟨Tryz.func70, by kernel_rfl⟩
  · exact ⟨Tryz.func71, by kernel_rfl⟩
  · exact ⟨Tryz.func72, by kernel_rfl⟩
  · exact ⟨Tryz.func74, by kernel_rfl⟩
  · exact ⟨Tryz.func75, by kernel_rfl⟩
  · exact ⟨Tryz.func76, by kernel_rfl⟩
  · exact ⟨Tryz.func77, by kernel_rfl⟩
  · exact ⟨Tryz.func78, by kernel_rfl⟩
  · exact ⟨Tryz.func80, by kernel_rfl⟩
  · exact ⟨Tryz.func83, by kernel_rfl⟩
  · exact ⟨Tryz.func90, by kernel_rfl⟩
  · exact ⟨Tryz.func92, by kernel_rfl⟩
  · exact ⟨Tryz.func93, by kernel_rfl⟩
  · exact ⟨Tryz.func94, by kernel_rfl⟩
  · exact ⟨Tryz.func97, by kernel_rfl⟩
  · exact ⟨Tryz.func102, by kernel_rfl⟩
  · exact ⟨Tryz.func103, by kernel_rfl⟩
  · exact ⟨Tryz.func104, by kernel_rfl⟩
  · exact ⟨Tryz.func105, by kernel_rfl⟩
  · exact ⟨Tryz.func106, by kernel_rfl⟩
  · exact ⟨Tryz.func107, by kernel_rfl⟩
  · exact ⟨Tryz.func108, by kernel_rfl⟩
  · exact ⟨Tryz.func109, by kernel_rfl⟩
  · exact ⟨Tryz.func110, by kernel_rfl⟩
  · exact ⟨Tryz.func111, by kernel_rfl⟩
  · exact ⟨Tryz.func112, by kernel_rfl⟩
  · exact ⟨Tryz.func113, by kernel_rfl⟩
  · exact ⟨Tryz.func117, by kernel_rfl⟩
  · exact ⟨Tryz.func118, by kernel_rfl⟩
  · exact ⟨Tryz.func122, by kernel_rfl⟩
  · exact ⟨Tryz.func123, by kernel_rfl⟩
  · exact ⟨Tryz.func124, by kernel_rfl⟩
  · exact ⟨Tryz.func126, by kernel_rfl⟩
  · exact ⟨Tryz.func127, by kernel_rfl⟩
  · exact ⟨Tryz.func128, by kernel_rfl⟩
  · exact ⟨Tryz.func131, by kernel_rfl⟩
  · exact ⟨Tryz.func138, by kernel_rfl⟩
  · exact ⟨Tryz.func139, by kernel_rfl⟩
  · exact ⟨Tryz.func140, by kernel_rfl⟩
  · exact ⟨Tryz.func141, by kernel_rfl⟩
  · exact ⟨Tryz.func142, by kernel_rfl⟩
  · exact ⟨Tryz.func143, by kernel_rfl⟩
  · exact ⟨Tryz.func144, by kernel_rfl⟩
  · exact ⟨Tryz.func145, by kernel_rfl⟩
  · exact ⟨Tryz.func159, by kernel_rfl⟩
  · exact ⟨Tryz.func166, by kernel_rfl⟩
  · exact ⟨Tryz.func186, by kernel_rfl⟩
  · exact ⟨Tryz.func188, by kernel_rfl⟩
  · exact ⟨Tryz.func189, by kernel_rfl⟩
  · exact ⟨Tryz.func217, by kernel_rfl⟩
  · exact ⟨Tryz.func219, by kernel_rfl⟩
  · exact ⟨Tryz.func220, by kernel_rfl⟩
  · exact ⟨Tryz.func250, by kernel_rfl⟩
  · exact ⟨Tryz.func251, by kernel_rfl⟩
  · exact ⟨Tryz.func252, by kernel_rfl⟩
  · exact ⟨Tryz.func253, by kernel_rfl⟩
  · exact ⟨Tryz.func263, by kernel_rfl⟩
  · exact ⟨Tryz.func264, by kernel_rfl⟩
  · exact ⟨Tryz.func266, by kernel_rfl⟩
  · exact ⟨Tryz.func273, by kernel_rfl⟩
  · exact ⟨Tryz.func277, by kernel_rfl⟩
  · exact ⟨Tryz.func287, by kernel_rfl⟩
  · exact ⟨Tryz.func289, by kernel_rfl⟩
  · exact ⟨Tryz.func312, by kernel_rfl⟩
noncomputable def knLaid : List (Nat × List Value) := [(0, [.int .i64 1, .bool false, .int .i64 0, .int .i64 0]),
  (2, [.int .i64 0, .string ⟨#[46, 46, 98, 98, 98, 46]⟩, .int .i64 8, .string ⟨#[105]⟩, .int .i64 10, .string ⟨#[46, 46, 108, 108, 116, 46, 105, 50, 105, 50, 105, 105]⟩, .int .i64 26, .string ⟨#[46, 46, 118]⟩, .int .i64 31, .string ⟨#[121, 105, 105, 105, 105, 105, 105, 105]⟩, .int .i64 40, .string ⟨#[109, 109]⟩, .int .i64 44, .string ⟨#[109, 109, 109, 109, 109, 109, 109, 109, 109, 109, 109, 109]⟩, .int .i64 58, .string ⟨#[109, 109, 109, 109, 109, 105, 105, 51, 54]⟩, .int .i64 69, .string ⟨#[46, 46, 46, 46, 46, 46, 46, 46, 46, 46, 46, 46, 46, 46, 46, 46, 46, 46, 46, 46, 46, 46]⟩, .int .i64 103, .string ⟨#[46, 46, 46, 46, 46, 46, 46, 46, 46, 46, 46, 46, 46, 46, 46, 46, 46, 46, 46, 46, 46, 46, 46, 46, 46, 46, 46, 46, 46, 46, 46, 46, 46, 46, 46, 46]⟩, .int .i64 167, .string ⟨#[46]⟩, .int .i64 172, .string ⟨#[46, 46]⟩, .int .i64 192, .string ⟨#[46, 46, 46, 46, 46]⟩, .int .i64 208, .string ⟨#[104, 46, 105, 46, 46, 108, 108]⟩, .int .i64 64256, .string ⟨#[105, 105, 50, 50, 50, 50, 105, 105, 50, 50, 50, 105, 105, 105, 105, 46, 105, 50, 50, 50, 104, 104, 104, 104, 99, 99, 46, 46, 46, 46, 46]⟩, .int .i64 64520, .string ⟨#[50, 105, 50, 105, 50, 105, 50, 105, 105, 105]⟩]),
  (4, [.int .i64 69, .int .i64 11, .int .i64 32, .int .i64 0, .int .i64 80, .int .i64 11, .int .i64 64, .int .i64 0, .int .i64 103, .int .i64 18, .int .i64 32, .int .i64 11, .int .i64 121, .int .i64 18, .int .i64 64, .int .i64 11, .int .i64 192, .int .i64 2, .int .i64 32, .int .i64 29, .int .i64 194, .int .i64 3, .int .i64 64, .int .i64 29, .int .i64 167, .int .i64 1, .int .i64 64, .int .i64 32, .int .i64 172, .int .i64 2, .int .i64 32, .int .i64 33]),
  (5, [.int .i64 40, .string ⟨#[52, 56]⟩, .int .i64 44, .string ⟨#[49, 49, 50, 50, 49, 49, 50, 50, 52, 52, 52, 56]⟩, .int .i64 58, .string ⟨#[49, 50, 49, 50, 52]⟩])]
theorem knLaid_of : laidOf Tryz.prog Rows.mapsBitsRow.laid ["geode/walk.i32", "geode/ops.runs", "geode/num.runs", "geode/ops.reaches"] = some knLaid := by kernel_rfl
noncomputable def knTab : Tab := { ty := trOf (tysOf Tryz.prog 444), fn := trOf knFn, gl := fun g => Nat.beq g 0 || Nat.beq g 2 || Nat.beq g 4 || Nat.beq g 5, tag := fun i => match i with | 1 => 321 | _ => 5 }
theorem knTold : ToldOk Tryz.prog (toldX 297 310) := toldX_ok Tryz.func297 (by kernel_rfl) (by kernel_rfl) (by kernel_rfl) (by kernel_rfl) Tryz.func310 (by kernel_rfl) (by kernel_rfl) (by kernel_rfl) (by kernel_rfl)
set_option maxRecDepth 1000000 in
theorem known_ev : (match cCallF Tryz.prog knTab 64 (toldX 297 310) (drawD Tryz.prog knTab 64) 200 4 [] ⟨heapOf knLaid, 64⟩ with | some (.bool b, _) => b | _ => false) = true := by kernel_rfl
theorem known_any {w : World} (hm : laidMet Tryz.prog Rows.mapsBitsRow.laid w) : Calls Tryz.prog 4 #[] w fun e w' => e = .returned (.bool true) ∧ Fr [] w w' := by
  have h := known_ev
  split at h
  · rename_i b s' he
    subst h
    refine ev_calls (tabOk_of (by decide) knFn_ok (by kernel_rfl) (by kernel_rfl)) knTold (by decide) ?_ (laidOf_ok hm knLaid_of) ?_ ⟨_, _, Tryz.func4, by kernel_rfl, rfl⟩ (args := []) (us := []) (fun _ _ => .nil) he (fun E _ u hu => by cases hu; rfl)
    · intro p hp
      simp only [knLaid, List.mem_cons, List.not_mem_nil, or_false] at hp
      rcases hp with rfl | rfl | rfl | rfl <;> decide
    · intro g hgl
      simp only [knTab, Bool.or_eq_true, Nat.beq_eq] at hgl
      simp only [knLaid, List.mem_cons, List.not_mem_nil, or_false]
      rcases hgl with (((rfl | rfl) | rfl) | rfl)
      · exact ⟨_, .inl rfl⟩
      · exact ⟨_, .inr (.inl rfl)⟩
      · exact ⟨_, .inr (.inr (.inl rfl))⟩
      · exact ⟨_, .inr (.inr (.inr (rfl)))⟩
  · cases h
end Go.Proofs.YthdbddolkfibkaaGreatDoor
