/-
  SpCopy: No condition.
-/
import Derived.Test.YtbnkjgcpjeedfaaGreatCopyC
import Derived.Test.YtbnkjgcpjeedfaaGreatSpFile
import Derived.Test.YtbnkjgcpjeedfaaGreatReadLf
namespace Go.Proofs.YtbnkjgcpjeedfaaGreat
set_option maxHeartbeats 8000000
set_option maxRecDepth 100000
set_option linter.unusedSimpArgs false
open Go.RowKit
set_option linter.unusedVariables false
theorem Qia{α:Type}{f:α->List Value}(hf:∀ x,∀ u∈f x,u.oneCell'=true)(l:List α):∀ u∈l.flatMap f,u.oneCell'=true:=fun u hu=>by
 obtain⟨x,_,hx⟩:=List.mem_flatMap.1 hu
 exact hf x u hx
theorem oneE:∀ x:Qaf,∀ u∈x.cells,u.oneCell'=true:=fun x u hu=>by
 simp only[Qaf.cells,List.mem_cons,List.not_mem_nil,or_false] at hu
 rcases hu with rfl|rfl|rfl|rfl|rfl <;> rfl
theorem oneR:∀ x:Qab,∀ u∈x.cells,u.oneCell'=true:=fun x u hu=>by
 simp only[Qab.cells,List.mem_cons,List.not_mem_nil,or_false] at hu
 rcases hu with rfl|rfl|rfl <;> rfl
theorem oneH_:∀ x:Qak,∀ u∈x.cells,u.oneCell'=true:=fun x u hu=>by
 simp only[Qak.cells,List.mem_cons,List.not_mem_nil,or_false] at hu
 rcases hu with rfl|rfl|rfl|rfl|rfl <;> rfl
theorem oneS:∀ x:ByteArray,∀ u∈sone x,u.oneCell'=true:=fun x u hu=>by
 simp only[sone,List.mem_cons,List.not_mem_nil,or_false] at hu
 rcases hu with rfl;rfl
structure CpT (w:World) (g q:Nat) (cs sc:Array Value) (vu:Value) (nu:Nat) (xu:List Value) (vv:Value) (nv:Nat) (xv:List Value) (w':World):Prop where
 a:CpS w g 13 37 cs w'
 s:Blk w' q 35 sc
 u:w'.ownsRow (q+1) 9 1 vu nu xu
 v:w'.ownsRow (q+1) 9 1 vv nv xv
theorem CpT.ext{w w1 w2:World}{g q nu nv:Nat}{cs sc:Array Value}{vu vv:Value}{xu xv:List Value}(h:CpT w g q cs sc vu nu xu vv nv xv w1)(he:Ext w1 w2):CpT w g q cs sc vu nu xu vv nv xv w2:=⟨h.a.ext he,h.s.ext he,Qag h.u he,Qag h.v he⟩
theorem CpT.put{w w1:World}{g q nu nv:Nat}{cs sc:Array Value}{vu vv:Value}{xu xv:List Value}(h:CpT w g q cs sc vu nu xu vv nv xv w1)(hg:w.heap.size<=g)(hq:g+1<q)(vs:List Value)(hv:13=vs.length):CpT w g q cs sc vu nu xu vv nv xv (w1.setCells (g+1) 0 vs)/\Blk (w1.setCells (g+1) 0 vs) (g+1) 37 vs.toArray:=by
 obtain⟨h1,h2⟩:=h.a.put hg vs hv
 exact⟨⟨h1,h.s.farCells (by omega) vs 0,Qa2 h.u (by omega) (Nat.le_refl _) vs 0,Qa2 h.v (by omega) (Nat.le_refl _) vs 0⟩,h2⟩
theorem Qju(b:Qad)(A0:Option Addr)(a0:Nat)(A1:Option Addr)(a1:Nat)(A2:Option Addr)(a2:Nat)(A3:Option Addr)(a3:Nat)(A4:Option Addr)(a4:Nat)(w:World)(s:BArg AnyB w b A0 a0 A1 a1 A2 a2 A3 a3 A4 a4)(hl:BSz b) :
 Calls Tryz.prog 164 #[.agg #[.int .i64 b.width,.slice A0 b.log.entries.length a0,.slice A1 b.receipts.length a1,.slice A2 b.heads.length a2,.int .i64 b.sealed.leaves.size,.slice A3 b.sealed.leaves.peaks.length a3,.int .i64 b.sealed.taken.size,.slice A4 b.sealed.taken.peaks.length a4,.int .i64 b.sealed.head.number,.int .i64 b.sealed.head.size,.string b.sealed.head.root,.int .i64 b.sealed.head.taken,.string b.sealed.head.takenRoot]] w fun e w'=>∃ V0 v0 V1 v1 V2 v2 V3 v3 V4 v4,e=.returned (.agg #[.int .i64 b.width,.slice V0 b.log.entries.length v0,.slice V1 b.receipts.length v1,.slice V2 b.heads.length v2,.int .i64 b.sealed.leaves.size,.slice V3 b.sealed.leaves.peaks.length v3,.int .i64 b.sealed.taken.size,.slice V4 b.sealed.taken.peaks.length v4,.int .i64 b.sealed.head.number,.int .i64 b.sealed.head.size,.string b.sealed.head.root,.int .i64 b.sealed.head.taken,.string b.sealed.head.takenRoot])/\Qb9 w.heap.size w' b (.slice V0 b.log.entries.length v0) (.slice V1 b.receipts.length v1) (.slice V2 b.heads.length v2) (.slice V3 b.sealed.leaves.peaks.length v3) (.slice V4 b.sealed.taken.peaks.length v4)/\(∀ x,(Value.slice V3 b.sealed.leaves.peaks.length v3).ownBlock=some x->(Value.slice V4 b.sealed.taken.peaks.length v4).ownBlock≠some x)/\Ext w w':=by
 obtain⟨iS,hSi,hS0,hS1,hS2⟩:=info_parts infS
 obtain⟨iE,hEi,hE0,hE1,hE2⟩:=info_parts infE
 obtain⟨iR,hRi,hR0,hR1,hR2⟩:=info_parts infR
 obtain⟨iH,hHi,hH0,hH1,hH2⟩:=info_parts infH
 have S0:=hU s;clear s
 have lE:=hl.e;have lR:=hl.r;have lH:=hl.h;have lU:=hl.u;have lV:=hl.v
 obtain⟨B0,B1,he⟩:=Qcq w #[.int .i64 b.width,.slice A0 b.log.entries.length a0,.slice A1 b.receipts.length a1,.slice A2 b.heads.length a2,.int .i64 b.sealed.leaves.size,.slice A3 b.sealed.leaves.peaks.length a3,.int .i64 b.sealed.taken.size,.slice A4 b.sealed.taken.peaks.length a4,.int .i64 b.sealed.head.number,.int .i64 b.sealed.head.size,.string b.sealed.head.root,.int .i64 b.sealed.head.taken,.string b.sealed.head.takenRoot] #[.int .i64 0,.slice none 0 0,.slice none 0 0,.slice none 0 0,.int .i64 0,.slice none 0 0,.int .i64 0,.slice none 0 0,.int .i64 0,.int .i64 0,.string ⟨#[]⟩,.int .i64 0,.string ⟨#[]⟩] 37 37
 obtain⟨r0,f0⟩:=B0.rules
 go_enter Tryz.func164,Tryz.ntmps164
 go_upto_region 1 with fail
 obtain⟨g,hg⟩:∃ g,g=w.heap.size:=⟨_,rfl⟩
 rw[<-hg] at B0 B1 r0 f0
 rw[<-hg]
 have hgw:w.heap.size<=g:=by omega
 clear hg
 obtain⟨w1,hw1⟩:∃ w1,w1=(w.alloc (.cells #[.int .i64 b.width,.slice A0 b.log.entries.length a0,.slice A1 b.receipts.length a1,.slice A2 b.heads.length a2,.int .i64 b.sealed.leaves.size,.slice A3 b.sealed.leaves.peaks.length a3,.int .i64 b.sealed.taken.size,.slice A4 b.sealed.taken.peaks.length a4,.int .i64 b.sealed.head.number,.int .i64 b.sealed.head.size,.string b.sealed.head.root,.int .i64 b.sealed.head.taken,.string b.sealed.head.takenRoot] 37)).alloc (.cells #[.int .i64 0,.slice none 0 0,.slice none 0 0,.slice none 0 0,.int .i64 0,.slice none 0 0,.int .i64 0,.slice none 0 0,.int .i64 0,.int .i64 0,.string ⟨#[]⟩,.int .i64 0,.string ⟨#[]⟩] 37):=⟨_,rfl⟩
 rw[<-hw1] at B0 B1 he r0 f0
 rw[<-hw1]
 clear hw1
 go_upto_region 2 with fail
 have hg2:g+1<w1.heap.size:=B1.lt
 have hx:=Ext.new (Below.refl w1.heap.size w1) (.cells #[.int .i64 b.sealed.leaves.size,.slice A3 b.sealed.leaves.peaks.length a3,.int .i64 b.sealed.taken.size,.slice A4 b.sealed.taken.peaks.length a4,.int .i64 b.sealed.head.number,.int .i64 b.sealed.head.size,.string b.sealed.head.root,.int .i64 b.sealed.head.taken,.string b.sealed.head.takenRoot] 35)
 have B2:=Blk.new w1 35 #[.int .i64 b.sealed.leaves.size,.slice A3 b.sealed.leaves.peaks.length a3,.int .i64 b.sealed.taken.size,.slice A4 b.sealed.taken.peaks.length a4,.int .i64 b.sealed.head.number,.int .i64 b.sealed.head.size,.string b.sealed.head.root,.int .i64 b.sealed.head.taken,.string b.sealed.head.takenRoot]
 replace B0:=B0.ext hx;replace B1:=B1.ext hx;replace he:=he.next hx
 obtain⟨q,hq⟩:∃ q,q=w1.heap.size:=⟨_,rfl⟩
 rw[<-hq] at B2 hg2
 rw[<-hq]
 clear hq hx r0 f0
 generalize w1.alloc (.cells #[.int .i64 b.sealed.leaves.size,.slice A3 b.sealed.leaves.peaks.length a3,.int .i64 b.sealed.taken.size,.slice A4 b.sealed.taken.peaks.length a4,.int .i64 b.sealed.head.number,.int .i64 b.sealed.head.size,.string b.sealed.head.root,.int .i64 b.sealed.head.taken,.string b.sealed.head.takenRoot] 35)=w2 at *
 have K1:=hU (Blk.new w2 9 #[]);have E1:=hU (Ext.new (Below.refl w2.heap.size w2) (.cells #[] 9))
 have X1:=hU (Qiq (Qdp (c:=a3) (S0.out.ext he).u.reads) E1.out rfl)
 have hqw:=B2.lt
 obtain⟨r2,f2⟩:=(B2.ext E1.out).rules
 go_wp2_with (at_builtin;refine Qbv rfl _ _ 29 rfl w2.heap.size w2.heap.size 9 iS (.string ⟨#[]⟩) 1 16 Tryz.underlying29 hSi hS0 hS1 hS2 rfl (by decide) rfl K1.out (Nat.le_refl _) _ b.sealed.leaves.peaks.length (b.sealed.leaves.peaks.flatMap sone) rfl X1.out (Qia oneS _) (by unfold maxLen;omega) (by omega) ?_)
 intro v' w3 hb4 h1
 obtain⟨V3,v3,rfl,_⟩:=Qae hb4
 clear r2 f2
 have ho:=Qaj (B':=q+1) hb4 (by omega)
 have h2:=E1.out.next h1
 replace B0:=B0.ext h2;replace B1:=B1.ext h2;replace B2:=B2.ext h2;replace he:=he.next h2
 clear h1 h2 K1 E1 X1 hqw hb4
 obtain⟨r2,f2⟩:=B2.rules
 have c0:=B0.far (p:=⟨q,1,none⟩) (by show g≠q;omega) (.slice V3 b.sealed.leaves.peaks.length v3)
 have c1:=B1.far (p:=⟨q,1,none⟩) (by show g+1≠q;omega) (.slice V3 b.sealed.leaves.peaks.length v3)
 have c2:Blk (w3.setCell ⟨q,1,none⟩ (.slice V3 b.sealed.leaves.peaks.length v3)) q 35 #[.int .i64 b.sealed.leaves.size,.slice V3 b.sealed.leaves.peaks.length v3,.int .i64 b.sealed.taken.size,.slice A4 b.sealed.taken.peaks.length a4,.int .i64 b.sealed.head.number,.int .i64 b.sealed.head.size,.string b.sealed.head.root,.int .i64 b.sealed.head.taken,.string b.sealed.head.takenRoot]:=B2.set_ 1 _
 have ce:Ext w (w3.setCell ⟨q,1,none⟩ (.slice V3 b.sealed.leaves.peaks.length v3)):=Below.setCell he (p:=⟨q,1,none⟩) (by show w.heap.size<=q;omega) (.slice V3 b.sealed.leaves.peaks.length v3)
 have co:(w3.setCell ⟨q,1,none⟩ (.slice V3 b.sealed.leaves.peaks.length v3)).ownsRow (q+1) 9 1 (.slice V3 b.sealed.leaves.peaks.length v3) b.sealed.leaves.peaks.length (b.sealed.leaves.peaks.flatMap sone):=Qa2 (B:=q+1) (g:=q) ho (by omega) (Nat.le_refl _) [.slice V3 b.sealed.leaves.peaks.length v3] 1
 have C0:=hU c0;have C1:=hU c1;have C2:=hU c2;have CE:=hU ce;have CO:=hU co
 clear c0 c1 c2 ce co ho B0 B1 he
 go_upto_region 3 with fail
 generalize w3.setCell ⟨q,1,none⟩ (.slice V3 b.sealed.leaves.peaks.length v3)=w4 at *
 clear r2 f2 B2
 have B0:=C0.out;have B1:=C1.out;have B2:=C2.out;have he:=CE.out;have ou:=CO.out
 clear C0 C1 C2 CE CO
 have K3:=hU (Blk.new w4 9 #[]);have E3:=hU (Ext.new (Below.refl w4.heap.size w4) (.cells #[] 9))
 have X3:=hU (Qiq (Qdp (c:=a4) (S0.out.ext he).v.reads) E3.out rfl)
 have hqw:=B2.lt
 obtain⟨r2,f2⟩:=(B2.ext E3.out).rules
 go_wp2_with (at_builtin;refine Qbv rfl _ _ 29 rfl w4.heap.size w4.heap.size 9 iS (.string ⟨#[]⟩) 1 16 Tryz.underlying29 hSi hS0 hS1 hS2 rfl (by decide) rfl K3.out (Nat.le_refl _) _ b.sealed.taken.peaks.length (b.sealed.taken.peaks.flatMap sone) rfl X3.out (Qia oneS _) (by unfold maxLen;omega) (by omega) ?_)
 intro v' w5 hb4 h1
 obtain⟨V4,v4,rfl,_⟩:=Qae hb4
 clear r2 f2
 have ap:∀ x,(Value.slice V3 b.sealed.leaves.peaks.length v3).ownBlock=some x->(Value.slice V4 b.sealed.taken.peaks.length v4).ownBlock≠some x:=fun x h3 h4=>by have h5:=(ou.lt x h3).2;have h6:=(hb4.lt x h4).1;omega
 have ho:=Qaj (B':=q+1) hb4 (by omega)
 have h2:=E3.out.next h1
 replace B0:=B0.ext h2;replace B1:=B1.ext h2;replace B2:=B2.ext h2;replace he:=he.next h2;replace ou:=Qag ou h2
 clear h1 h2 K3 E3 X3 hqw hb4
 obtain⟨r2,f2⟩:=B2.rules
 have c0:=B0.far (p:=⟨q,3,none⟩) (by show g≠q;omega) (.slice V4 b.sealed.taken.peaks.length v4)
 have c1:=B1.far (p:=⟨q,3,none⟩) (by show g+1≠q;omega) (.slice V4 b.sealed.taken.peaks.length v4)
 have c2:Blk (w5.setCell ⟨q,3,none⟩ (.slice V4 b.sealed.taken.peaks.length v4)) q 35 #[.int .i64 b.sealed.leaves.size,.slice V3 b.sealed.leaves.peaks.length v3,.int .i64 b.sealed.taken.size,.slice V4 b.sealed.taken.peaks.length v4,.int .i64 b.sealed.head.number,.int .i64 b.sealed.head.size,.string b.sealed.head.root,.int .i64 b.sealed.head.taken,.string b.sealed.head.takenRoot]:=B2.set_ 3 _
 have ce:Ext w (w5.setCell ⟨q,3,none⟩ (.slice V4 b.sealed.taken.peaks.length v4)):=Below.setCell he (p:=⟨q,3,none⟩) (by show w.heap.size<=q;omega) (.slice V4 b.sealed.taken.peaks.length v4)
 have co:(w5.setCell ⟨q,3,none⟩ (.slice V4 b.sealed.taken.peaks.length v4)).ownsRow (q+1) 9 1 (.slice V4 b.sealed.taken.peaks.length v4) b.sealed.taken.peaks.length (b.sealed.taken.peaks.flatMap sone):=Qa2 (B:=q+1) (g:=q) ho (by omega) (Nat.le_refl _) [.slice V4 b.sealed.taken.peaks.length v4] 3
 have cu:(w5.setCell ⟨q,3,none⟩ (.slice V4 b.sealed.taken.peaks.length v4)).ownsRow (q+1) 9 1 (.slice V3 b.sealed.leaves.peaks.length v3) b.sealed.leaves.peaks.length (b.sealed.leaves.peaks.flatMap sone):=Qa2 (B:=q+1) (g:=q) ou (by omega) (Nat.le_refl _) [.slice V4 b.sealed.taken.peaks.length v4] 3
 have CU:=hU cu;have AP:=hU ap
 clear cu ap ou
 have C0:=hU c0;have C1:=hU c1;have C2:=hU c2;have CE:=hU ce;have CO:=hU co
 clear c0 c1 c2 ce co ho B0 B1 he
 go_upto_region 4 with fail
 generalize w5.setCell ⟨q,3,none⟩ (.slice V4 b.sealed.taken.peaks.length v4)=w6 at *
 clear r2 f2 B2
 have B0:=C0.out;have B1:=C1.out;have B2:=C2.out;have he:=CE.out;have ov:=CO.out;have ou:=CU.out
 clear C0 C1 C2 CE CO CU
 refine wp_region_held_drew (S:=CpT w g q #[.int .i64 b.width,.slice A0 b.log.entries.length a0,.slice A1 b.receipts.length a1,.slice A2 b.heads.length a2,.int .i64 b.sealed.leaves.size,.slice A3 b.sealed.leaves.peaks.length a3,.int .i64 b.sealed.taken.size,.slice A4 b.sealed.taken.peaks.length a4,.int .i64 b.sealed.head.number,.int .i64 b.sealed.head.size,.string b.sealed.head.root,.int .i64 b.sealed.head.taken,.string b.sealed.head.takenRoot] #[.int .i64 b.sealed.leaves.size,.slice V3 b.sealed.leaves.peaks.length v3,.int .i64 b.sealed.taken.size,.slice V4 b.sealed.taken.peaks.length v4,.int .i64 b.sealed.head.number,.int .i64 b.sealed.head.size,.string b.sealed.head.root,.int .i64 b.sealed.head.taken,.string b.sealed.head.takenRoot] (.slice V3 b.sealed.leaves.peaks.length v3) b.sealed.leaves.peaks.length (b.sealed.leaves.peaks.flatMap sone) (.slice V4 b.sealed.taken.peaks.length v4) b.sealed.taken.peaks.length (b.sealed.taken.peaks.flatMap sone)) (by kernel_rfl) ⟨⟨B0.drew,⟨_,rfl,B1.drew⟩,he.drew⟩,B2.drew,Qag ou (Below.refl _ _).drew,Qag ov (Below.refl _ _).drew⟩ (fun hH=>?_)
 clear B0 B1 B2 he ou ov
 refine tk 0 (.pointer (some ⟨g,0,none⟩)) (some 20) hH ?_
 try simp only[zA]
 refine Qah 1 (.int .i64 b.width) (some 21) rfl rfl (by kernel_rfl) (Or.inl ⟨by rfl,?ys2⟩) hH ?rs2
 case ys2=>intro w' hS';have A0:=hS'.a.a;obtain⟨r0,f0⟩:=A0.rules;have A1:=hS'.s;obtain⟨r1,f1⟩:=A1.rules;go_simp;try with_reducible rfl
 try simp only[zA]
 refine tk 3 (.pointer (some ⟨g,1,none⟩)) (some 23) hH ?_
 try simp only[zA]
 refine tk 4 (.pointer (some ⟨g,1,none⟩)) (some 24) hH ?_
 try simp only[zA]
 refine Qah 5 (.slice A0 b.log.entries.length a0) (some 25) rfl rfl (by kernel_rfl) (Or.inl ⟨by rfl,?ys5⟩) hH ?rs5
 case ys5=>intro w' hS';have A0:=hS'.a.a;obtain⟨r0,f0⟩:=A0.rules;have A1:=hS'.s;obtain⟨r1,f1⟩:=A1.rules;go_simp;try with_reducible rfl
 try simp only[zA]
 refine tk 9 (.pointer (some ⟨g,2,none⟩)) (some 29) hH ?_
 try simp only[zA]
 refine Qah 10 (.slice A1 b.receipts.length a1) (some 30) rfl rfl (by kernel_rfl) (Or.inl ⟨by rfl,?ys7⟩) hH ?rs7
 case ys7=>intro w' hS';have A0:=hS'.a.a;obtain⟨r0,f0⟩:=A0.rules;have A1:=hS'.s;obtain⟨r1,f1⟩:=A1.rules;go_simp;try with_reducible rfl
 try simp only[zA]
 refine tk 13 (.pointer (some ⟨g,3,none⟩)) (some 33) hH ?_
 try simp only[zA]
 refine Qah 14 (.slice A2 b.heads.length a2) (some 34) rfl rfl (by kernel_rfl) (Or.inl ⟨by rfl,?ys9⟩) hH ?rs9
 case ys9=>intro w' hS';have A0:=hS'.a.a;obtain⟨r0,f0⟩:=A0.rules;have A1:=hS'.s;obtain⟨r1,f1⟩:=A1.rules;go_simp;try with_reducible rfl
 try simp only[zA]
 refine Qah 16 (.agg #[.int .i64 b.sealed.leaves.size,.slice V3 b.sealed.leaves.peaks.length v3,.int .i64 b.sealed.taken.size,.slice V4 b.sealed.taken.peaks.length v4,.int .i64 b.sealed.head.number,.int .i64 b.sealed.head.size,.string b.sealed.head.root,.int .i64 b.sealed.head.taken,.string b.sealed.head.takenRoot]) (some 36) rfl rfl (by kernel_rfl) (Or.inl ⟨by rfl,?ys10⟩) hH ?rs10
 case ys10=>intro w' hS';have A0:=hS'.a.a;obtain⟨r0,f0⟩:=A0.rules;have A1:=hS'.s;obtain⟨r1,f1⟩:=A1.rules;go_simp;try with_reducible rfl
 try simp only[zA]
 refine Qlw [(2,some 22),(6,some 26),(7,some 27),(8,some 28),(11,some 31),(12,some 32),(15,some 35)] (fun i v w'=>match i with
  | 2=>∃ K,v=.slice (some ⟨K,0,none⟩) 0 0/\Blk w' K 40 #[]/\q+1<=K
  | 6=>∃ V c,v=.slice V b.log.entries.length c/\w'.ownsRow (q+1) 40 5 (.slice V b.log.entries.length c) b.log.entries.length (b.log.entries.flatMap Qaf.cells)
  | 7=>∃ V c,v=.agg #[.slice V b.log.entries.length c]/\w'.ownsRow (q+1) 40 5 (.slice V b.log.entries.length c) b.log.entries.length (b.log.entries.flatMap Qaf.cells)
  | 8=>∃ K,v=.slice (some ⟨K,0,none⟩) 0 0/\Blk w' K 42 #[]/\q+1<=K
  | 11=>∃ V c,v=.slice V b.receipts.length c/\w'.ownsRow (q+1) 42 3 (.slice V b.receipts.length c) b.receipts.length (b.receipts.flatMap Qab.cells)
  | 12=>∃ K,v=.slice (some ⟨K,0,none⟩) 0 0/\Blk w' K 33 #[]/\q+1<=K
  | 15=>∃ V c,v=.slice V b.heads.length c/\w'.ownsRow (q+1) 33 5 (.slice V b.heads.length c) b.heads.length (b.heads.flatMap Qak.cells)
  | _=>True) _ (fun w1 w2=>Ext w1 w2) (n:=2) (by kernel_rfl) (by rfl) (fun _ a b _ e h=>by cases a;cases b;cases e;exact h) ?hR hH ?hst ?hend
 case hR=>
  intro j v u1 u2 hu hp
  split at hp
  · obtain⟨K,e,h1,h2⟩:=hp;exact⟨K,e,h1.ext hu,h2⟩
  · obtain⟨V,c,e,h1⟩:=hp;exact⟨V,c,e,Qag h1 hu⟩
  · obtain⟨V,c,e,h1⟩:=hp;exact⟨V,c,e,Qag h1 hu⟩
  · obtain⟨K,e,h1,h2⟩:=hp;exact⟨K,e,h1.ext hu,h2⟩
  · obtain⟨V,c,e,h1⟩:=hp;exact⟨V,c,e,Qag h1 hu⟩
  · obtain⟨K,e,h1,h2⟩:=hp;exact⟨K,e,h1.ext hu,h2⟩
  · obtain⟨V,c,e,h1⟩:=hp;exact⟨V,c,e,Qag h1 hu⟩
  · trivial
 case hst=>
  clear hH
  refine Qbo.cons [] (o:=_) rfl rfl rfl (by kernel_rfl) (fun vals u hv hS K' hK=>?_) ?_
  · clear hv
    have hlt:=hS.s.lt
    refine⟨?_⟩
    (try simp only[zB] at hK ⊢)
    go_simp
    exact hK.out _ _ ⟨_,rfl,u.heap.size,rfl,Blk.new _ _ _,hlt⟩ (hS.ext (Ext.new (Below.refl _ _) _)) (Ext.new (Below.refl _ _) _)
  refine Qbo.cons [2] (o:=_) rfl rfl rfl (by kernel_rfl) (fun vals u hv hS K' hK=>?_) ?_
  · obtain⟨⟨K,hv0,hb0,hk0⟩,_⟩:=hv
    refine⟨?_⟩
    try simp only[zB]
    rw[if_pos (by rfl)]
    refine Qdh (some 26) _ _ 24 (by rfl) (by rfl) (q+1) K 40 iE (.agg #[.string ⟨#[]⟩,.int .i64 0,.int .i64 0,.string ⟨#[]⟩,.string ⟨#[]⟩]) 5 64 Tryz.underlying24 hEi hE0 hE1 hE2 rfl (by decide) (by exact hv0) hb0 hk0 (.slice A0 b.log.entries.length a0) b.log.entries.length (b.log.entries.flatMap Qaf.cells) (by rfl) (Qdp (c:=a0) (S0.out.ext hS.a.x).e.reads) (Qia oneE _) ?_ ?_ (fun v' w' ho hx=>?_)
    · unfold maxLen;omega
    · omega
    obtain⟨V,c,rfl,_⟩:=Qae ho
    exact hK.out _ _ ⟨_,rfl,V,c,rfl,ho⟩ (hS.ext hx) hx
  refine Qbo.cons [6] (o:=_) rfl rfl rfl (by kernel_rfl) (fun vals u hv hS K' hK=>?_) ?_
  · obtain⟨⟨V,c,hv0,ho⟩,_⟩:=hv
    refine⟨?_⟩
    (try simp only[zB] at hK ⊢)
    (try simp only at hv0)
    rw[hv0] at hK ⊢
    clear hv0
    go_simp
    exact hK.out _ _ ⟨_,rfl,V,c,rfl,ho⟩ hS (Below.refl _ _)
  refine Qbo.cons [] (o:=_) rfl rfl rfl (by kernel_rfl) (fun vals u hv hS K' hK=>?_) ?_
  · clear hv
    have hlt:=hS.s.lt
    refine⟨?_⟩
    (try simp only[zB] at hK ⊢)
    go_simp
    exact hK.out _ _ ⟨_,rfl,u.heap.size,rfl,Blk.new _ _ _,hlt⟩ (hS.ext (Ext.new (Below.refl _ _) _)) (Ext.new (Below.refl _ _) _)
  refine Qbo.cons [8,6] (o:=_) rfl rfl rfl (by kernel_rfl) (fun vals u hv hS K' hK=>?_) ?_
  · obtain⟨⟨K,hv0,hb0,hk0⟩,_⟩:=hv
    refine⟨?_⟩
    try simp only[zB]
    rw[if_pos (by rfl)]
    refine Qdh (some 31) _ _ 27 (by rfl) (by rfl) (q+1) K 42 iR (.agg #[.string ⟨#[]⟩,.string ⟨#[]⟩,.int .i64 0]) 3 40 Tryz.underlying27 hRi hR0 hR1 hR2 rfl (by decide) (by exact hv0) hb0 hk0 (.slice A1 b.receipts.length a1) b.receipts.length (b.receipts.flatMap Qab.cells) (by rfl) (Qdp (c:=a1) (S0.out.ext hS.a.x).r.reads) (Qia oneR _) ?_ ?_ (fun v' w' ho hx=>?_)
    · unfold maxLen;omega
    · omega
    obtain⟨V,c,rfl,_⟩:=Qae ho
    exact hK.out _ _ ⟨_,rfl,V,c,rfl,ho⟩ (hS.ext hx) hx
  refine Qbo.cons [] (o:=_) rfl rfl rfl (by kernel_rfl) (fun vals u hv hS K' hK=>?_) ?_
  · clear hv
    have hlt:=hS.s.lt
    refine⟨?_⟩
    (try simp only[zB] at hK ⊢)
    go_simp
    exact hK.out _ _ ⟨_,rfl,u.heap.size,rfl,Blk.new _ _ _,hlt⟩ (hS.ext (Ext.new (Below.refl _ _) _)) (Ext.new (Below.refl _ _) _)
  refine Qbo.cons [12,11] (o:=_) rfl rfl rfl (by kernel_rfl) (fun vals u hv hS K' hK=>?_) ?_
  · obtain⟨⟨K,hv0,hb0,hk0⟩,_⟩:=hv
    refine⟨?_⟩
    try simp only[zB]
    rw[if_pos (by rfl)]
    refine Qdh (some 35) _ _ 28 (by rfl) (by rfl) (q+1) K 33 iH (.agg #[.int .i64 0,.int .i64 0,.string ⟨#[]⟩,.int .i64 0,.string ⟨#[]⟩]) 5 56 Tryz.underlying28 hHi hH0 hH1 hH2 rfl (by decide) (by exact hv0) hb0 hk0 (.slice A2 b.heads.length a2) b.heads.length (b.heads.flatMap Qak.cells) (by rfl) (Qdp (c:=a2) (S0.out.ext hS.a.x).h.reads) (Qia oneH_ _) ?_ ?_ (fun v' w' ho hx=>?_)
    · unfold maxLen;omega
    · omega
    obtain⟨V,c,rfl,_⟩:=Qae ho
    exact hK.out _ _ ⟨_,rfl,V,c,rfl,ho⟩ (hS.ext hx) hx
  exact Qbo.nil
 case hend=>
  clear hH
  intro vals w9 hv hH
  obtain⟨⟨k2,hv2,_⟩,⟨V6,v6,hv6,_⟩,⟨V0,v0,hv7,oe⟩,⟨k8,hv8,_⟩,⟨V1,v1,hv11,or_⟩,⟨k12,hv12,_⟩,⟨V2,v2,hv15,oh⟩,_⟩:=hv
  (try simp only at hv2 hv6 hv7 hv8 hv11 hv12 hv15)
  try simp only[zB]
  rw[hv2,hv6,hv7,hv8,hv11,hv12,hv15]
  clear hv2 hv6 hv7 hv8 hv11 hv12 hv15
  refine Qah 17 (.agg #[.int .i64 b.width,.slice V0 b.log.entries.length v0,.slice V1 b.receipts.length v1,.slice V2 b.heads.length v2,.int .i64 b.sealed.leaves.size,.slice V3 b.sealed.leaves.peaks.length v3,.int .i64 b.sealed.taken.size,.slice V4 b.sealed.taken.peaks.length v4,.int .i64 b.sealed.head.number,.int .i64 b.sealed.head.size,.string b.sealed.head.root,.int .i64 b.sealed.head.taken,.string b.sealed.head.takenRoot]) (some 37) rfl rfl (by kernel_rfl) (Or.inl ⟨by rfl,?ys11⟩) hH ?rs11
  case ys11=>intro w' hS';have A0:=hS'.a.a;obtain⟨r0,f0⟩:=A0.rules;have A1:=hS'.s;obtain⟨r1,f1⟩:=A1.rules;go_simp;try with_reducible rfl
  try simp only[zA]
  have OE:=hU oe;have OR:=hU or_;have OH:=hU oh
  clear oe or_ oh
  refine oneH 18 (oi:=_) none (by kernel_rfl) rfl rfl rfl (fun K' hK=>?_)
  refine⟨?_⟩;rw[if_pos (by rfl)]
  refine Qao 37 _ _ (by rfl) (by rfl) (g+1) 0 [.int .i64 b.width,.slice V0 b.log.entries.length v0,.slice V1 b.receipts.length v1,.slice V2 b.heads.length v2,.int .i64 b.sealed.leaves.size,.slice V3 b.sealed.leaves.peaks.length v3,.int .i64 b.sealed.taken.size,.slice V4 b.sealed.taken.peaks.length v4,.int .i64 b.sealed.head.number,.int .i64 b.sealed.head.size,.string b.sealed.head.root,.int .i64 b.sealed.head.taken,.string b.sealed.head.takenRoot] (by rfl) (by rfl) hH.a.there (by kernel_rfl) (by rfl) ?_
  obtain⟨hn,bz⟩:=hH.put hgw hg2 [.int .i64 b.width,.slice V0 b.log.entries.length v0,.slice V1 b.receipts.length v1,.slice V2 b.heads.length v2,.int .i64 b.sealed.leaves.size,.slice V3 b.sealed.leaves.peaks.length v3,.int .i64 b.sealed.taken.size,.slice V4 b.sealed.taken.peaks.length v4,.int .i64 b.sealed.head.number,.int .i64 b.sealed.head.size,.string b.sealed.head.root,.int .i64 b.sealed.head.taken,.string b.sealed.head.takenRoot] rfl
  have BZ:=hU bz;clear bz
  have OO:Hid (Qb9 w.heap.size _ b _ _ _ _ _):=hU (⟨Qa2 (B:=w.heap.size) (g:=g+1) OE.out (by omega) (by omega) [.int .i64 b.width,.slice V0 b.log.entries.length v0,.slice V1 b.receipts.length v1,.slice V2 b.heads.length v2,.int .i64 b.sealed.leaves.size,.slice V3 b.sealed.leaves.peaks.length v3,.int .i64 b.sealed.taken.size,.slice V4 b.sealed.taken.peaks.length v4,.int .i64 b.sealed.head.number,.int .i64 b.sealed.head.size,.string b.sealed.head.root,.int .i64 b.sealed.head.taken,.string b.sealed.head.takenRoot] 0,Qa2 (B:=w.heap.size) (g:=g+1) OR.out (by omega) (by omega) [.int .i64 b.width,.slice V0 b.log.entries.length v0,.slice V1 b.receipts.length v1,.slice V2 b.heads.length v2,.int .i64 b.sealed.leaves.size,.slice V3 b.sealed.leaves.peaks.length v3,.int .i64 b.sealed.taken.size,.slice V4 b.sealed.taken.peaks.length v4,.int .i64 b.sealed.head.number,.int .i64 b.sealed.head.size,.string b.sealed.head.root,.int .i64 b.sealed.head.taken,.string b.sealed.head.takenRoot] 0,Qa2 (B:=w.heap.size) (g:=g+1) OH.out (by omega) (by omega) [.int .i64 b.width,.slice V0 b.log.entries.length v0,.slice V1 b.receipts.length v1,.slice V2 b.heads.length v2,.int .i64 b.sealed.leaves.size,.slice V3 b.sealed.leaves.peaks.length v3,.int .i64 b.sealed.taken.size,.slice V4 b.sealed.taken.peaks.length v4,.int .i64 b.sealed.head.number,.int .i64 b.sealed.head.size,.string b.sealed.head.root,.int .i64 b.sealed.head.taken,.string b.sealed.head.takenRoot] 0,Qa2 (B:=w.heap.size) (g:=g+1) hH.u (by omega) (by omega) [.int .i64 b.width,.slice V0 b.log.entries.length v0,.slice V1 b.receipts.length v1,.slice V2 b.heads.length v2,.int .i64 b.sealed.leaves.size,.slice V3 b.sealed.leaves.peaks.length v3,.int .i64 b.sealed.taken.size,.slice V4 b.sealed.taken.peaks.length v4,.int .i64 b.sealed.head.number,.int .i64 b.sealed.head.size,.string b.sealed.head.root,.int .i64 b.sealed.head.taken,.string b.sealed.head.takenRoot] 0,Qa2 (B:=w.heap.size) (g:=g+1) hH.v (by omega) (by omega) [.int .i64 b.width,.slice V0 b.log.entries.length v0,.slice V1 b.receipts.length v1,.slice V2 b.heads.length v2,.int .i64 b.sealed.leaves.size,.slice V3 b.sealed.leaves.peaks.length v3,.int .i64 b.sealed.taken.size,.slice V4 b.sealed.taken.peaks.length v4,.int .i64 b.sealed.head.number,.int .i64 b.sealed.head.size,.string b.sealed.head.root,.int .i64 b.sealed.head.taken,.string b.sealed.head.takenRoot] 0⟩)
  refine hK.out _ _ ⟨undef,rfl⟩ hn (fun hH2=>?_)
  clear hK K' hn hH
  have HX:=hU hH2.a.x
  clear hH2
  try simp only[zB]
  generalize w9.setCells (g+1) 0 [.int .i64 b.width,.slice V0 b.log.entries.length v0,.slice V1 b.receipts.length v1,.slice V2 b.heads.length v2,.int .i64 b.sealed.leaves.size,.slice V3 b.sealed.leaves.peaks.length v3,.int .i64 b.sealed.taken.size,.slice V4 b.sealed.taken.peaks.length v4,.int .i64 b.sealed.head.number,.int .i64 b.sealed.head.size,.string b.sealed.head.root,.int .i64 b.sealed.head.taken,.string b.sealed.head.takenRoot]=wz at *
  refine wpAnyH_done (by kernel_rfl) ?_ _
  go_wp2_with fail
  exact Qdc rfl rfl BZ.out Tryz.underlying37 rfl (by kernel_rfl) rfl ⟨_,_,_,_,_,_,_,_,_,_,rfl,OO.out,AP.out,HX.out⟩
theorem Qic(b:Qad)(f:Nat)(hf:f<3)(t:ByteArray)(A0:Option Addr)(a0:Nat)(A1:Option Addr)(a1:Nat)(A2:Option Addr)(a2:Nat)(A3:Option Addr)(a3:Nat)(A4:Option Addr)(a4:Nat)(w:World)(s:BArg AnyB w b A0 a0 A1 a1 A2 a2 A3 a3 A4 a4)(hk:TxOk b)(hn:(Qay b f).length<=1048576)(hs:∀ t∈Qay b f,t.size<=maxLen)(hfr:(Qai (Qay b f)).size=offT (Qay b f))(ht:t.size<=maxLen) :
 Calls Tryz.prog 165 #[.agg (brkV b A0 a0 A1 a1 A2 a2 A3 a3 A4 a4).toArray,.int .i64 (f:Int),.string t] w fun e w'=>∃ v,e=.returned v/\w'.ownsRow w.heap.size 50 3 v 1 (Qcs b f t).cells/\Ext w w':=by
 have B0:=(Blk.new w 37 (brkV b A0 a0 A1 a1 A2 a2 A3 a3 A4 a4).toArray)
 have he:=(Ext.new (Below.refl w.heap.size w) (.cells (brkV b A0 a0 A1 a1 A2 a2 A3 a3 A4 a4).toArray 37))
 have C0:=hU (fun(W:World) (hW:Ext w W)=>Qs8 b f hf A0 a0 A1 a1 A2 a2 A3 a3 A4 a4 W (s.ext hW) hk hn hs)
 have HT:=hU ht;have HFR:=hU hfr
 obtain⟨cs,hcs⟩:∃ cs,cs=(brkV b A0 a0 A1 a1 A2 a2 A3 a3 A4 a4):=⟨_,rfl⟩
 have HL13:=hU (show cs.length=13 by rw[hcs];rfl)
 rw[<-hcs] at C0 B0 he
 rw[<-hcs]
 clear s hk hn hs hfr ht hcs
 go_enter Tryz.func165,Tryz.ntmps165
 go_wp2_with fail
 refine(Qj7 t _ HT.out).mono ?_
 rintro e w1 ⟨rfl,h1⟩
 replace he:=he.next h1;replace B0:=B0.ext h1
 clear h1
 obtain⟨F,hF⟩:∃ F,F=Qax t:=⟨_,rfl⟩
 rw[<-hF]
 have HF:=hU hF
 clear hF
 have RX:=hU (Blk.range B0)
 have HE:=hU he
 clear he B0
 go_wp2_with (refine wpList_load_mid rfl 37 _ rfl w.heap.size 0 rfl cs _ RX.out Tryz.underlying37 rfl (by rw[HL13.out];kernel_rfl) ?_)
 refine(C0.out _ HE.out).mono ?_
 rintro e w2 ⟨rfl,h1⟩
 have he:=HE.out.next h1
 clear h1 RX HE C0
 have hws:=he.size
 obtain⟨G,hG⟩:∃ G,G=Qai (Qay b f):=⟨_,rfl⟩
 rw[<-hG]
 have HG:=hU (show(G.size:Int)=((offT (Qay b f):Nat):Int) by rw[hG,HFR.out])
 clear hG
 have Z:=hU ((Blk.new w2 50 #[.int .i64 (f:Int),.int .i64 (G.size:Int),.string F]).ownsRow (xs:=[.int .i64 (f:Int),.int .i64 (G.size:Int),.string F]) 1 3 w.heap.size hws rfl (by unfold maxLen;omega))
 have X:=hU (he.new (.cells #[.int .i64 (f:Int),.int .i64 (G.size:Int),.string F] 50))
 clear he hws
 go_wp2_with fail
 go_ret
 refine⟨_,rfl,?_,X.out⟩
 have E:(Qcs b f t).cells=[.int .i64 (f:Int),.int .i64 (G.size:Int),.string F]:=by rw[HG.out,HF.out];rfl
 rw[E]
 exact Z.out
end Go.Proofs.YtbnkjgcpjeedfaaGreat
