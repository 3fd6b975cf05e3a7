/-
  LawCutAnywhere: No condition.
-/
import Derived.Test.YtbnkjgcpjeedfaaGreatRows
import Derived.Test.YtbnkjgcpjeedfaaGreatMem
import Derived.Test.YtbnkjgcpjeedfaaGreatCanLw
import Derived.Test.YtbnkjgcpjeedfaaGreatCanFx
namespace Go.Proofs.YtbnkjgcpjeedfaaGreat
set_option maxRecDepth 100000
set_option linter.unusedSimpArgs false
open Go.RowKit Go.WideShapes Go.ChangeAt
set_option linter.unusedVariables false
theorem CutAnywhere_holds:Rows.FnCutAnywhereSaid:=
 lawOver (p:=Tryz.pinned) (c:=Rows.fnCutAnywhereRow) (s:=Rows.fnCutAnywhereSpec) 3 Tryz.f3 4
  own laidOut (by kernel_rfl) (by kernel_rfl) rfl rfl Tryz.underlying4
  (fun H ds h=>by match ds,h with|[d0],_=>rfl)
  rfl rfl rfl rfl rfl rfl rfl ⟨rfl,rfl,rfl,rfl,rfl⟩ rfl rfl rfl rfl rfl (by kernel_rfl) Tryz.func3 caFacts
  (of_decide_eq_true (by kernel_rfl)) (by unfold Func.isWrapper;rw[if_neg (of_decide_eq_false (by kernel_rfl))];exact⟨rfl,rfl⟩)
  rfl rfl (fun _ _=>rfl) rfl rfl rfl rfl
  (fun os started H enc=>ChangeSpec.witness6 (enc:=enc) (C:=Tryz.checked) false ⟨#[],#[.slice none 0 0],[]⟩ 20 (by kernel_rfl) (by kernel_rfl) (by kernel_rfl) (by kernel_rfl))
  (fun W args h=>by
   have hs:=h.size
   obtain⟨l⟩:=args
   match l,hs with
   | [v0],_=>
     obtain⟨base0,n0,o0,t0⟩:=h.arg 0 22 v0 rfl rfl
     obtain⟨A0,l0,c0,rfl⟩:=okWide_slice Tryz.underlying22 o0
     obtain⟨B0,d0,a,e0,x0,y0,r0,k0⟩:=Qso Qn8 Qld 1 Tryz.underlying22 (by kernel_rfl) (by decide) (fun _=>rfl) (fun m es h=>Qtk h) t0
     obtain⟨rfl,rfl,rfl⟩:A0=B0/\l0=a.length/\c0=d0:=by simpa [Value.cells] using e0
     exact Qjt A0 c0 a W (Nat.le_trans x0 y0) k0 r0)
#print axioms CutAnywhere_holds
end Go.Proofs.YtbnkjgcpjeedfaaGreat
