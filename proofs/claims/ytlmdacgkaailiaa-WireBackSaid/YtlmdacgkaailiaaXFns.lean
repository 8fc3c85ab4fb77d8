/- What the records of the functions say: made by program. -/
import Derived.Test.YtlmdacgkaailiaaXTy
namespace Go.Proofs.Ytlmdacgkaailiaa
open Go.Ve
theorem fn2 : FnIs P 2 Try.f2.ntmps (Try.f2.body.getD .skip) Try.f2.results.toList := ⟨⟨Try.f2, Try.func2, rfl, rfl, rfl, by kernel_rfl⟩⟩
theorem fn3 : FnIs P 3 Try.f3.ntmps (Try.f3.body.getD .skip) Try.f3.results.toList := ⟨⟨Try.f3, Try.func3, rfl, rfl, rfl, by kernel_rfl⟩⟩
theorem fn4 : FnIs P 4 Try.f4.ntmps (Try.f4.body.getD .skip) Try.f4.results.toList := ⟨⟨Try.f4, Try.func4, rfl, rfl, rfl, by kernel_rfl⟩⟩
theorem fn5 : FnIs P 5 Try.f5.ntmps (Try.f5.body.getD .skip) Try.f5.results.toList := ⟨⟨Try.f5, Try.func5, rfl, rfl, rfl, by kernel_rfl⟩⟩
theorem fn6 : FnIs P 6 Try.f6.ntmps (Try.f6.body.getD .skip) Try.f6.results.toList := ⟨⟨Try.f6, Try.func6, rfl, rfl, rfl, by kernel_rfl⟩⟩
theorem fn7 : FnIs P 7 Try.f7.ntmps (Try.f7.body.getD .skip) Try.f7.results.toList := ⟨⟨Try.f7, Try.func7, rfl, rfl, rfl, by kernel_rfl⟩⟩
theorem fn8 : FnIs P 8 Try.f8.ntmps (Try.f8.body.getD .skip) Try.f8.results.toList := ⟨⟨Try.f8, Try.func8, rfl, rfl, rfl, by kernel_rfl⟩⟩
theorem fn9 : FnIs P 9 Try.f9.ntmps (Try.f9.body.getD .skip) Try.f9.results.toList := ⟨⟨Try.f9, Try.func9, rfl, rfl, rfl, by kernel_rfl⟩⟩
theorem fn10 : FnIs P 10 Try.f10.ntmps (Try.f10.body.getD .skip) Try.f10.results.toList := ⟨⟨Try.f10, Try.func10, rfl, rfl, rfl, by kernel_rfl⟩⟩
theorem fn11 : FnIs P 11 Try.f11.ntmps (Try.f11.body.getD .skip) Try.f11.results.toList := ⟨⟨Try.f11, Try.func11, rfl, rfl, rfl, by kernel_rfl⟩⟩
theorem fn12 : FnIs P 12 Try.f12.ntmps (Try.f12.body.getD .skip) Try.f12.results.toList := ⟨⟨Try.f12, Try.func12, rfl, rfl, rfl, by kernel_rfl⟩⟩
theorem fn13 : FnIs P 13 Try.f13.ntmps (Try.f13.body.getD .skip) Try.f13.results.toList := ⟨⟨Try.f13, Try.func13, rfl, rfl, rfl, by kernel_rfl⟩⟩
theorem fn14 : FnIs P 14 Try.f14.ntmps (Try.f14.body.getD .skip) Try.f14.results.toList := ⟨⟨Try.f14, Try.func14, rfl, rfl, rfl, by kernel_rfl⟩⟩
theorem fn15 : FnIs P 15 Try.f15.ntmps (Try.f15.body.getD .skip) Try.f15.results.toList := ⟨⟨Try.f15, Try.func15, rfl, rfl, rfl, by kernel_rfl⟩⟩
theorem fn16 : FnIs P 16 Try.f16.ntmps (Try.f16.body.getD .skip) Try.f16.results.toList := ⟨⟨Try.f16, Try.func16, rfl, rfl, rfl, by kernel_rfl⟩⟩
theorem fn17 : FnIs P 17 Try.f17.ntmps (Try.f17.body.getD .skip) Try.f17.results.toList := ⟨⟨Try.f17, Try.func17, rfl, rfl, rfl, by kernel_rfl⟩⟩
theorem fn18 : FnIs P 18 Try.f18.ntmps (Try.f18.body.getD .skip) Try.f18.results.toList := ⟨⟨Try.f18, Try.func18, rfl, rfl, rfl, by kernel_rfl⟩⟩
theorem fn19 : FnIs P 19 Try.f19.ntmps (Try.f19.body.getD .skip) Try.f19.results.toList := ⟨⟨Try.f19, Try.func19, rfl, rfl, rfl, by kernel_rfl⟩⟩
theorem fn20 : FnIs P 20 Try.f20.ntmps (Try.f20.body.getD .skip) Try.f20.results.toList := ⟨⟨Try.f20, Try.func20, rfl, rfl, rfl, by kernel_rfl⟩⟩
theorem fn21 : FnIs P 21 Try.f21.ntmps (Try.f21.body.getD .skip) Try.f21.results.toList := ⟨⟨Try.f21, Try.func21, rfl, rfl, rfl, by kernel_rfl⟩⟩
theorem fn22 : FnIs P 22 Try.f22.ntmps (Try.f22.body.getD .skip) Try.f22.results.toList := ⟨⟨Try.f22, Try.func22, rfl, rfl, rfl, by kernel_rfl⟩⟩
theorem fn23 : FnIs P 23 Try.f23.ntmps (Try.f23.body.getD .skip) Try.f23.results.toList := ⟨⟨Try.f23, Try.func23, rfl, rfl, rfl, by kernel_rfl⟩⟩
theorem fn24 : FnIs P 24 Try.f24.ntmps (Try.f24.body.getD .skip) Try.f24.results.toList := ⟨⟨Try.f24, Try.func24, rfl, rfl, rfl, by kernel_rfl⟩⟩
theorem fn25 : FnIs P 25 Try.f25.ntmps (Try.f25.body.getD .skip) Try.f25.results.toList := ⟨⟨Try.f25, Try.func25, rfl, rfl, rfl, by kernel_rfl⟩⟩
theorem fn26 : FnIs P 26 Try.f26.ntmps (Try.f26.body.getD .skip) Try.f26.results.toList := ⟨⟨Try.f26, Try.func26, rfl, rfl, rfl, by kernel_rfl⟩⟩
theorem fn27 : FnIs P 27 Try.f27.ntmps (Try.f27.body.getD .skip) Try.f27.results.toList := ⟨⟨Try.f27, Try.func27, rfl, rfl, rfl, by kernel_rfl⟩⟩
theorem fn28 : FnIs P 28 Try.f28.ntmps (Try.f28.body.getD .skip) Try.f28.results.toList := ⟨⟨Try.f28, Try.func28, rfl, rfl, rfl, by kernel_rfl⟩⟩
theorem fn29 : FnIs P 29 Try.f29.ntmps (Try.f29.body.getD .skip) Try.f29.results.toList := ⟨⟨Try.f29, Try.func29, rfl, rfl, rfl, by kernel_rfl⟩⟩
theorem fn30 : FnIs P 30 Try.f30.ntmps (Try.f30.body.getD .skip) Try.f30.results.toList := ⟨⟨Try.f30, Try.func30, rfl, rfl, rfl, by kernel_rfl⟩⟩
theorem fn31 : FnIs P 31 Try.f31.ntmps (Try.f31.body.getD .skip) Try.f31.results.toList := ⟨⟨Try.f31, Try.func31, rfl, rfl, rfl, by kernel_rfl⟩⟩
theorem fn32 : FnIs P 32 Try.f32.ntmps (Try.f32.body.getD .skip) Try.f32.results.toList := ⟨⟨Try.f32, Try.func32, rfl, rfl, rfl, by kernel_rfl⟩⟩
theorem fn33 : FnIs P 33 Try.f33.ntmps (Try.f33.body.getD .skip) Try.f33.results.toList := ⟨⟨Try.f33, Try.func33, rfl, rfl, rfl, by kernel_rfl⟩⟩
theorem fn34 : FnIs P 34 Try.f34.ntmps (Try.f34.body.getD .skip) Try.f34.results.toList := ⟨⟨Try.f34, Try.func34, rfl, rfl, rfl, by kernel_rfl⟩⟩
theorem fn35 : FnIs P 35 Try.f35.ntmps (Try.f35.body.getD .skip) Try.f35.results.toList := ⟨⟨Try.f35, Try.func35, rfl, rfl, rfl, by kernel_rfl⟩⟩
theorem fn36 : FnIs P 36 Try.f36.ntmps (Try.f36.body.getD .skip) Try.f36.results.toList := ⟨⟨Try.f36, Try.func36, rfl, rfl, rfl, by kernel_rfl⟩⟩
theorem fn37 : FnIs P 37 Try.f37.ntmps (Try.f37.body.getD .skip) Try.f37.results.toList := ⟨⟨Try.f37, Try.func37, rfl, rfl, rfl, by kernel_rfl⟩⟩
theorem fn38 : FnIs P 38 Try.f38.ntmps (Try.f38.body.getD .skip) Try.f38.results.toList := ⟨⟨Try.f38, Try.func38, rfl, rfl, rfl, by kernel_rfl⟩⟩
theorem fn39 : FnIs P 39 Try.f39.ntmps (Try.f39.body.getD .skip) Try.f39.results.toList := ⟨⟨Try.f39, Try.func39, rfl, rfl, rfl, by kernel_rfl⟩⟩
theorem fn40 : FnIs P 40 Try.f40.ntmps (Try.f40.body.getD .skip) Try.f40.results.toList := ⟨⟨Try.f40, Try.func40, rfl, rfl, rfl, by kernel_rfl⟩⟩
end Go.Proofs.Ytlmdacgkaailiaa
