/-
  CopyC: No condition.
-/
import Derived.Test.YtbnkjgcpjeedfaaGreatRowTx
import Derived.Test.YtbnkjgcpjeedfaaGreatBrkNew
import Derived.Test.YtbnkjgcpjeedfaaGreatReopenR
namespace Go.Proofs.YtbnkjgcpjeedfaaGreat
set_option maxHeartbeats 4000000
set_option maxRecDepth 100000
set_option linter.unusedSimpArgs false
open Go.RowKit
set_option linter.unusedVariables false
structure BArg (p:Nat->Prop) (w:World) (b:Qad) (E0:Option Addr) (e0:Nat) (E1:Option Addr) (e1:Nat) (E2:Option Addr) (e2:Nat) (E3:Option Addr) (e3:Nat) (E4:Option Addr) (e4:Nat):Prop where
 e:SlF p Qaf.cells 5 w E0 b.log.entries e0
 r:SlF p Qab.cells 3 w E1 b.receipts e1
 h:SlF p Qak.cells 5 w E2 b.heads e2
 u:SlF p sone 1 w E3 b.sealed.leaves.peaks e3
 v:SlF p sone 1 w E4 b.sealed.taken.peaks e4
theorem BArg.keep{p:Nat->Prop}{w w':World}{b:Qad}{E0 E1 E2 E3 E4:Option Addr}{e0 e1 e2 e3 e4:Nat}(h:BArg p w b E0 e0 E1 e1 E2 e2 E3 e3 E4 e4)(he:Keep p w w'):BArg p w' b E0 e0 E1 e1 E2 e2 E3 e3 E4 e4:=⟨h.e.keep he,h.r.keep he,h.h.keep he,h.u.keep he,h.v.keep he⟩
theorem BArg.ext{p:Nat->Prop}{w w':World}{b:Qad}{E0 E1 E2 E3 E4:Option Addr}{e0 e1 e2 e3 e4:Nat}(h:BArg p w b E0 e0 E1 e1 E2 e2 E3 e3 E4 e4)(he:Ext w w'):BArg p w' b E0 e0 E1 e1 E2 e2 E3 e3 E4 e4:=⟨h.e.ext he,h.r.ext he,h.h.ext he,h.u.ext he,h.v.ext he⟩
theorem BArg.any{p:Nat->Prop}{w:World}{b:Qad}{E0 E1 E2 E3 E4:Option Addr}{e0 e1 e2 e3 e4:Nat}(h:BArg p w b E0 e0 E1 e1 E2 e2 E3 e3 E4 e4):BArg AnyB w b E0 e0 E1 e1 E2 e2 E3 e3 E4 e4:=⟨h.e.any,h.r.any,h.h.any,h.u.any,h.v.any⟩
structure BSz (b:Qad):Prop where
 e:b.log.entries.length<=1048576
 r:b.receipts.length<=1048576
 h:b.heads.length<=1048576
 u:b.sealed.leaves.peaks.length<=1048576
 v:b.sealed.taken.peaks.length<=1048576
structure CpS (w:World) (g n:Nat) (T:TypeId) (cs:Array Value) (w':World):Prop where
 a:Blk w' g T cs
 z:∃ ds:Array Value,ds.size=n/\Blk w' (g+1) T ds
 x:Ext w w'
theorem CpS.ext{w w1 w2:World}{g n:Nat}{T:TypeId}{cs:Array Value}(h:CpS w g n T cs w1)(he:Ext w1 w2):CpS w g n T cs w2:=by
 obtain⟨ds,h1,h2⟩:=h.z
 exact⟨h.a.ext he,⟨ds,h1,h2.ext he⟩,h.x.next he⟩
theorem CpS.there{w w1:World}{g n:Nat}{T:TypeId}{cs:Array Value}(h:CpS w g n T cs w1):w1.there (g+1) 0 n:=by
 obtain⟨ds,h1,h2⟩:=h.z
 exact h2.there 0 n (by omega)
theorem CpS.lt{w w1:World}{g n:Nat}{T:TypeId}{cs:Array Value}(h:CpS w g n T cs w1):g+2<=w1.heap.size:=by
 obtain⟨ds,h1,h2⟩:=h.z
 exact h2.lt
theorem CpS.put{w w1:World}{g n:Nat}{T:TypeId}{cs:Array Value}(h:CpS w g n T cs w1)(hg:w.heap.size<=g)(vs:List Value)(hv:n=vs.length):CpS w g n T cs (w1.setCells (g+1) 0 vs)/\Blk (w1.setCells (g+1) 0 vs) (g+1) T vs.toArray:=by
 obtain⟨ds,h1,h2⟩:=h.z
 have k:=Qas h2 vs (by omega)
 exact⟨⟨h.a.farCells (by omega) vs 0,⟨_,by simp[hv],k⟩,Qaa (by omega) vs 0 _ h.x⟩,k⟩
theorem Qa2{w1:World}{B K g e size n:Nat}{v:Value}{xs:List Value}(h:w1.ownsRow K e size v n xs)(hg:g<K)(hB:B<=K)(vs:List Value)(o:Nat):(w1.setCells g o vs).ownsRow B e size v n xs:=
 Qaj (Qjs h (Qc4 g vs o w1 w1 (World.grownBy.refl _ _)) hg) hB
theorem Qn4(A:Option Addr)(c:Nat)(l:List Qaf)(w:World)(s:SlF AnyB Qaf.cells 5 w A l c)(hl:l.length<=1048576) :
 Calls Tryz.prog 169 #[.agg #[.slice A l.length c]] w fun e w'=>∃ v,e=.returned (.agg #[v])/\w'.ownsRow w.heap.size 40 5 v l.length (l.flatMap Qaf.cells)/\Ext w w':=by
 obtain⟨B0,B1,he⟩:=Qcq w #[.slice A l.length c] #[.slice none 0 0] 26 26
 have K1:=hU B1;have He:=hU he;clear B1 he
 have S0:=hU s;clear s
 obtain⟨r0,f0⟩:=B0.rules
 go_enter Tryz.func169,Tryz.ntmps169
 go_wp2_with fail
 refine(Qtx A c l _ (S0.out.ext He.out) hl).mono ?_
 rintro e w1 ⟨v,rfl,ho,h1⟩
 have k1:=K1.out.ext h1;have he:=He.out.next h1
 simp only[World.size_alloc] at ho
 obtain⟨A',c',rfl,_⟩:=Qae ho
 have hz:=k1.put 0 [.slice A' l.length c'] #[.slice A' l.length c'] (by simp) rfl
 have hx:=Qaa (W:=w) (g:=w.heap.size+1) (by omega) [.slice A' l.length c'] 0 _ he
 have hy:=Qa2 (B:=w.heap.size) (g:=w.heap.size+1) ho (by omega) (by omega) [.slice A' l.length c'] 0
 obtain⟨r1,f1⟩:=k1.rules
 have Z:=hU hz;have X:=hU hx;have Y:=hU hy
 clear hz hx hy ho h1 he k1 B0 r0 f0
 go_wp2_with fail
 exact Qdc rfl rfl Z.out Tryz.underlying26 rfl (by kernel_rfl) rfl ⟨_,rfl,Y.out,X.out⟩
theorem Qk1(n:Int)(A:Option Addr)(c:Nat)(l:List ByteArray)(w:World)(s:SlF AnyB sone 1 w A l c)(hl:l.length<=1048576) :
 Calls Tryz.prog 231 #[.agg #[.int .i64 n,.slice A l.length c]] w fun e w'=>∃ v,e=.returned (.agg #[.int .i64 n,v])/\RowT w.heap.size w' v l/\Ext w w':=by
 have S0:=hU s;clear s
 obtain⟨B0,B1,he⟩:=Qcq w #[.int .i64 n,.slice A l.length c] #[.int .i64 0,.slice none 0 0] 31 31
 go_enter Tryz.func231,Tryz.ntmps231
 go_upto_region 1 with fail
 obtain⟨g,hg⟩:∃ g,g=w.heap.size:=⟨_,rfl⟩
 rw[<-hg] at B0 B1
 rw[<-hg]
 have hgw:w.heap.size<=g:=by omega
 clear hg
 generalize (w.alloc (.cells #[.int .i64 n,.slice A l.length c] 31)).alloc (.cells #[.int .i64 0,.slice none 0 0] 31)=w0 at *
 refine wp_region_held_drew (S:=CpS w g 2 31 #[.int .i64 n,.slice A l.length c]) (by kernel_rfl) ⟨B0.drew,⟨_,rfl,B1.drew⟩,he.drew⟩ (fun hH=>?_)
 clear B0 B1 he
 refine tk 0 (.pointer (some ⟨g,0,none⟩)) (some 3) hH ?_
 try simp only[zA]
 refine Qah 1 (.int .i64 n) (some 4) rfl rfl (by kernel_rfl) (Or.inl ⟨by rfl,?ya2⟩) hH ?ra2
 case ya2=>intro w' hS';have A0:=hS'.a;obtain⟨r0,f0⟩:=A0.rules;go_simp;try with_reducible rfl
 try simp only[zA]
 refine tk 2 (.pointer (some ⟨g,1,none⟩)) (some 5) hH ?_
 try simp only[zA]
 refine Qah 3 (.slice A l.length c) (some 6) rfl rfl (by kernel_rfl) (Or.inl ⟨by rfl,?ya4⟩) hH ?ra4
 case ya4=>intro w' hS';have A0:=hS'.a;obtain⟨r0,f0⟩:=A0.rules;go_simp;try with_reducible rfl
 try simp only[zA]
 refine oneH 4 (oi:=_) (some 7) (by kernel_rfl) rfl rfl rfl (fun K' hK=>?_)
 refine⟨?_⟩
 rw[if_pos (by rfl)]
 go_simp
 refine(Qpu A c l _ (S0.out.ext hH.x) hl).mono ?_
 rintro e w2 ⟨v,rfl,ho,h1⟩
 replace ho:=Qaj (B':=g+2) ho hH.lt
 obtain⟨A2,c2,rfl,_⟩:=Qae ho
 refine hK.out _ _ ⟨_,rfl⟩ (hH.ext h1) (fun hH2=>?_)
 clear hK K' hH h1
 have hH:=hH2
 clear hH2
 try simp only[zB]
 have O2:=hU ho;clear ho
 refine Qah 5 (.agg #[.int .i64 n,.slice A2 l.length c2]) (some 8) rfl rfl (by kernel_rfl) (Or.inl ⟨by rfl,?ya5⟩) hH ?ra5
 case ya5=>intro w' hS';have A0:=hS'.a;obtain⟨r0,f0⟩:=A0.rules;go_simp;try with_reducible rfl
 try simp only[zA]
 refine oneH 6 (oi:=_) none (by kernel_rfl) rfl rfl rfl (fun K' hK=>?_)
 refine⟨?_⟩;rw[if_pos (by rfl)]
 refine Qao 31 _ _ (by rfl) (by rfl) (g+1) 0 [.int .i64 n,.slice A2 l.length c2] (by rfl) (by rfl) hH.there (by kernel_rfl) (by rfl) ?_
 obtain⟨hn,bz⟩:=hH.put hgw [.int .i64 n,.slice A2 l.length c2] rfl
 have BZ:=hU bz;clear bz
 have O3:=hU (Qa2 (B:=w.heap.size) (g:=g+1) O2.out (by omega) (by omega) [.int .i64 n,.slice A2 l.length c2] 0)
 refine hK.out _ _ ⟨undef,rfl⟩ (hn) (fun hH2=>?_)
 clear hK K' hH
 have hH:=hH2
 clear hH2
 try simp only[zB]
 generalize w2.setCells (g+1) 0 [.int .i64 n,.slice A2 l.length c2]=w9 at *
 refine wpAnyH_done (by kernel_rfl) ?_ _
 go_wp2_with fail
 exact Qdc rfl rfl BZ.out Tryz.underlying31 rfl (by kernel_rfl) rfl ⟨_,rfl,O3.out,hH.x⟩
theorem Qr8(m n:Int)(h:Qak)(A:Option Addr)(c:Nat)(l:List ByteArray)(A2:Option Addr)(c2:Nat)(l2:List ByteArray)(w:World)(s:SlF AnyB sone 1 w A l c)(s2:SlF AnyB sone 1 w A2 l2 c2)(hl:l.length<=1048576)(hl2:l2.length<=1048576) :
 Calls Tryz.prog 172 #[.agg #[.int .i64 m,.slice A l.length c,.int .i64 n,.slice A2 l2.length c2,.int .i64 h.number,.int .i64 h.size,.string h.root,.int .i64 h.taken,.string h.takenRoot]] w fun e w'=>∃ v1 v2,e=.returned (.agg #[.int .i64 m,v1,.int .i64 n,v2,.int .i64 h.number,.int .i64 h.size,.string h.root,.int .i64 h.taken,.string h.takenRoot])/\RowT w.heap.size w' v1 l/\RowT w.heap.size w' v2 l2/\(∀ x,v1.ownBlock=some x->v2.ownBlock≠some x)/\Ext w w':=by
 have S0:=hU s;have S2:=hU s2;clear s s2
 obtain⟨B0,B1,he⟩:=Qcq w #[.int .i64 m,.slice A l.length c,.int .i64 n,.slice A2 l2.length c2,.int .i64 h.number,.int .i64 h.size,.string h.root,.int .i64 h.taken,.string h.takenRoot] #[.int .i64 0,.slice none 0 0,.int .i64 0,.slice none 0 0,.int .i64 0,.int .i64 0,.string ⟨#[]⟩,.int .i64 0,.string ⟨#[]⟩] 35 35
 go_enter Tryz.func172,Tryz.ntmps172
 go_upto_region 1 with fail
 obtain⟨g,hg⟩:∃ g,g=w.heap.size:=⟨_,rfl⟩
 rw[<-hg] at B0 B1
 rw[<-hg]
 have hgw:w.heap.size<=g:=by omega
 clear hg
 generalize (w.alloc (.cells #[.int .i64 m,.slice A l.length c,.int .i64 n,.slice A2 l2.length c2,.int .i64 h.number,.int .i64 h.size,.string h.root,.int .i64 h.taken,.string h.takenRoot] 35)).alloc (.cells #[.int .i64 0,.slice none 0 0,.int .i64 0,.slice none 0 0,.int .i64 0,.int .i64 0,.string ⟨#[]⟩,.int .i64 0,.string ⟨#[]⟩] 35)=w0 at *
 refine wp_region_held_drew (S:=CpS w g 9 35 #[.int .i64 m,.slice A l.length c,.int .i64 n,.slice A2 l2.length c2,.int .i64 h.number,.int .i64 h.size,.string h.root,.int .i64 h.taken,.string h.takenRoot]) (by kernel_rfl) ⟨B0.drew,⟨_,rfl,B1.drew⟩,he.drew⟩ (fun hH=>?_)
 clear B0 B1 he
 refine tk 0 (.pointer (some ⟨g,0,none⟩)) (some 3) hH ?_
 try simp only[zA]
 refine Qah 1 (.agg #[.int .i64 m,.slice A l.length c]) (some 4) rfl rfl (by kernel_rfl) (Or.inl ⟨by rfl,?yb2⟩) hH ?rb2
 case yb2=>intro w' hS';have A0:=hS'.a;obtain⟨r0,f0⟩:=A0.rules;go_simp;try with_reducible rfl
 try simp only[zA]
 refine tk 3 (.pointer (some ⟨g,2,none⟩)) (some 6) hH ?_
 try simp only[zA]
 refine Qah 4 (.agg #[.int .i64 n,.slice A2 l2.length c2]) (some 7) rfl rfl (by kernel_rfl) (Or.inl ⟨by rfl,?yb4⟩) hH ?rb4
 case yb4=>intro w' hS';have A0:=hS'.a;obtain⟨r0,f0⟩:=A0.rules;go_simp;try with_reducible rfl
 try simp only[zA]
 refine tk 6 (.pointer (some ⟨g,4,none⟩)) (some 9) hH ?_
 try simp only[zA]
 refine Qah 7 (.agg #[.int .i64 h.number,.int .i64 h.size,.string h.root,.int .i64 h.taken,.string h.takenRoot]) (some 10) rfl rfl (by kernel_rfl) (Or.inl ⟨by rfl,?yb6⟩) hH ?rb6
 case yb6=>intro w' hS';have A0:=hS'.a;obtain⟨r0,f0⟩:=A0.rules;go_simp;try with_reducible rfl
 try simp only[zA]
 refine oneH 2 (oi:=_) (some 5) (by kernel_rfl) rfl rfl rfl (fun K' hK=>?_)
 refine⟨?_⟩
 rw[if_pos (by rfl)]
 go_simp
 refine(Qk1 m A c l _ (S0.out.ext hH.x) hl).mono ?_
 rintro e w2 ⟨v,rfl,ho,h1⟩
 replace ho:=Qaj (B':=g+2) ho hH.lt
 obtain⟨A3,c3,rfl,_⟩:=Qae ho
 refine hK.out _ _ ⟨_,rfl⟩ (hH.ext h1) (fun hH2=>?_)
 clear hK K' hH h1
 have hH:=hH2
 clear hH2
 try simp only[zB]
 refine oneH 5 (oi:=_) (some 8) (by kernel_rfl) rfl rfl rfl (fun K' hK=>?_)
 refine⟨?_⟩
 rw[if_pos (by rfl)]
 go_simp
 refine(Qk1 n A2 c2 l2 _ (S2.out.ext hH.x) hl2).mono ?_
 rintro e w3 ⟨v,rfl,hp,h1⟩
 have ap:∀ x,(Value.slice A3 l.length c3).ownBlock=some x->v.ownBlock≠some x:=fun x hx hx2=>by have h3:=(ho.lt x hx).2;have h4:=(hp.lt x hx2).1;omega
 replace hp:=Qaj (B':=g+2) hp hH.lt
 replace ho:=Qag ho h1
 obtain⟨A4,c4,rfl,_⟩:=Qae hp
 refine hK.out _ _ ⟨_,rfl⟩ (hH.ext h1) (fun hH2=>?_)
 clear hK K' hH h1
 have hH:=hH2
 clear hH2
 try simp only[zB]
 have O2:=hU ho;have P2:=hU hp;have AP:=hU ap;clear ho hp ap
 refine Qah 8 (.agg #[.int .i64 m,.slice A3 l.length c3,.int .i64 n,.slice A4 l2.length c4,.int .i64 h.number,.int .i64 h.size,.string h.root,.int .i64 h.taken,.string h.takenRoot]) (some 11) rfl rfl (by kernel_rfl) (Or.inl ⟨by rfl,?yb7⟩) hH ?rb7
 case yb7=>intro w' hS';have A0:=hS'.a;obtain⟨r0,f0⟩:=A0.rules;go_simp;try with_reducible rfl
 try simp only[zA]
 refine oneH 9 (oi:=_) none (by kernel_rfl) rfl rfl rfl (fun K' hK=>?_)
 refine⟨?_⟩;rw[if_pos (by rfl)]
 refine Qao 35 _ _ (by rfl) (by rfl) (g+1) 0 [.int .i64 m,.slice A3 l.length c3,.int .i64 n,.slice A4 l2.length c4,.int .i64 h.number,.int .i64 h.size,.string h.root,.int .i64 h.taken,.string h.takenRoot] (by rfl) (by rfl) hH.there (by kernel_rfl) (by rfl) ?_
 obtain⟨hn,bz⟩:=hH.put hgw [.int .i64 m,.slice A3 l.length c3,.int .i64 n,.slice A4 l2.length c4,.int .i64 h.number,.int .i64 h.size,.string h.root,.int .i64 h.taken,.string h.takenRoot] rfl
 have BZ:=hU bz;clear bz
 have O3:=hU (Qa2 (B:=w.heap.size) (g:=g+1) O2.out (by omega) (by omega) [.int .i64 m,.slice A3 l.length c3,.int .i64 n,.slice A4 l2.length c4,.int .i64 h.number,.int .i64 h.size,.string h.root,.int .i64 h.taken,.string h.takenRoot] 0)
 have P3:=hU (Qa2 (B:=w.heap.size) (g:=g+1) P2.out (by omega) (by omega) [.int .i64 m,.slice A3 l.length c3,.int .i64 n,.slice A4 l2.length c4,.int .i64 h.number,.int .i64 h.size,.string h.root,.int .i64 h.taken,.string h.takenRoot] 0)
 refine hK.out _ _ ⟨undef,rfl⟩ (hn) (fun hH2=>?_)
 clear hK K' hH
 have hH:=hH2
 clear hH2
 try simp only[zB]
 generalize w3.setCells (g+1) 0 [.int .i64 m,.slice A3 l.length c3,.int .i64 n,.slice A4 l2.length c4,.int .i64 h.number,.int .i64 h.size,.string h.root,.int .i64 h.taken,.string h.takenRoot]=w9 at *
 refine wpAnyH_done (by kernel_rfl) ?_ _
 go_wp2_with fail
 exact Qdc rfl rfl BZ.out Tryz.underlying35 rfl (by kernel_rfl) rfl ⟨_,_,rfl,O3.out,P3.out,AP.out,hH.x⟩
theorem Qgx(b:Qad)(A0:Option Addr)(a0:Nat)(A1:Option Addr)(a1:Nat)(A2:Option Addr)(a2:Nat)(A3:Option Addr)(a3:Nat)(A4:Option Addr)(a4:Nat)(w:World)(s:BArg AnyB w b A0 a0 A1 a1 A2 a2 A3 a3 A4 a4)(hl:BSz b) :
 Calls Tryz.prog 98 #[.agg #[.int .i64 b.width,.slice A0 b.log.entries.length a0,.slice A1 b.receipts.length a1,.slice A2 b.heads.length a2,.int .i64 b.sealed.leaves.size,.slice A3 b.sealed.leaves.peaks.length a3,.int .i64 b.sealed.taken.size,.slice A4 b.sealed.taken.peaks.length a4,.int .i64 b.sealed.head.number,.int .i64 b.sealed.head.size,.string b.sealed.head.root,.int .i64 b.sealed.head.taken,.string b.sealed.head.takenRoot]] w fun e w'=>∃ V0 v0 V1 v1 V2 v2 V3 v3 V4 v4,e=.returned (.agg #[.int .i64 b.width,.slice V0 b.log.entries.length v0,.slice V1 b.receipts.length v1,.slice V2 b.heads.length v2,.int .i64 b.sealed.leaves.size,.slice V3 b.sealed.leaves.peaks.length v3,.int .i64 b.sealed.taken.size,.slice V4 b.sealed.taken.peaks.length v4,.int .i64 b.sealed.head.number,.int .i64 b.sealed.head.size,.string b.sealed.head.root,.int .i64 b.sealed.head.taken,.string b.sealed.head.takenRoot])/\Qb9 w.heap.size w' b (.slice V0 b.log.entries.length v0) (.slice V1 b.receipts.length v1) (.slice V2 b.heads.length v2) (.slice V3 b.sealed.leaves.peaks.length v3) (.slice V4 b.sealed.taken.peaks.length v4)/\(∀ x,(Value.slice V3 b.sealed.leaves.peaks.length v3).ownBlock=some x->(Value.slice V4 b.sealed.taken.peaks.length v4).ownBlock≠some x)/\Ext w w':=by
 have S0:=hU s;clear s
 obtain⟨B0,B1,he⟩:=Qcq w #[.int .i64 b.width,.slice A0 b.log.entries.length a0,.slice A1 b.receipts.length a1,.slice A2 b.heads.length a2,.int .i64 b.sealed.leaves.size,.slice A3 b.sealed.leaves.peaks.length a3,.int .i64 b.sealed.taken.size,.slice A4 b.sealed.taken.peaks.length a4,.int .i64 b.sealed.head.number,.int .i64 b.sealed.head.size,.string b.sealed.head.root,.int .i64 b.sealed.head.taken,.string b.sealed.head.takenRoot] #[.int .i64 0,.slice none 0 0,.slice none 0 0,.slice none 0 0,.int .i64 0,.slice none 0 0,.int .i64 0,.slice none 0 0,.int .i64 0,.int .i64 0,.string ⟨#[]⟩,.int .i64 0,.string ⟨#[]⟩] 37 37
 go_enter Tryz.func98,Tryz.ntmps98
 go_upto_region 1 with fail
 obtain⟨g,hg⟩:∃ g,g=w.heap.size:=⟨_,rfl⟩
 rw[<-hg] at B0 B1
 rw[<-hg]
 have hgw:w.heap.size<=g:=by omega
 clear hg
 generalize (w.alloc (.cells #[.int .i64 b.width,.slice A0 b.log.entries.length a0,.slice A1 b.receipts.length a1,.slice A2 b.heads.length a2,.int .i64 b.sealed.leaves.size,.slice A3 b.sealed.leaves.peaks.length a3,.int .i64 b.sealed.taken.size,.slice A4 b.sealed.taken.peaks.length a4,.int .i64 b.sealed.head.number,.int .i64 b.sealed.head.size,.string b.sealed.head.root,.int .i64 b.sealed.head.taken,.string b.sealed.head.takenRoot] 37)).alloc (.cells #[.int .i64 0,.slice none 0 0,.slice none 0 0,.slice none 0 0,.int .i64 0,.slice none 0 0,.int .i64 0,.slice none 0 0,.int .i64 0,.int .i64 0,.string ⟨#[]⟩,.int .i64 0,.string ⟨#[]⟩] 37)=w0 at *
 refine wp_region_held_drew (S:=CpS w g 13 37 #[.int .i64 b.width,.slice A0 b.log.entries.length a0,.slice A1 b.receipts.length a1,.slice A2 b.heads.length a2,.int .i64 b.sealed.leaves.size,.slice A3 b.sealed.leaves.peaks.length a3,.int .i64 b.sealed.taken.size,.slice A4 b.sealed.taken.peaks.length a4,.int .i64 b.sealed.head.number,.int .i64 b.sealed.head.size,.string b.sealed.head.root,.int .i64 b.sealed.head.taken,.string b.sealed.head.takenRoot]) (by kernel_rfl) ⟨B0.drew,⟨_,rfl,B1.drew⟩,he.drew⟩ (fun hH=>?_)
 clear B0 B1 he
 refine tk 0 (.pointer (some ⟨g,0,none⟩)) (some 3) hH ?_
 try simp only[zA]
 refine Qah 1 (.int .i64 b.width) (some 4) rfl rfl (by kernel_rfl) (Or.inl ⟨by rfl,?yc2⟩) hH ?rc2
 case yc2=>intro w' hS';have A0:=hS'.a;obtain⟨r0,f0⟩:=A0.rules;go_simp;try with_reducible rfl
 try simp only[zA]
 refine tk 2 (.pointer (some ⟨g,1,none⟩)) (some 5) hH ?_
 try simp only[zA]
 refine Qah 3 (.agg #[.slice A0 b.log.entries.length a0]) (some 6) rfl rfl (by kernel_rfl) (Or.inl ⟨by rfl,?yc4⟩) hH ?rc4
 case yc4=>intro w' hS';have A0:=hS'.a;obtain⟨r0,f0⟩:=A0.rules;go_simp;try with_reducible rfl
 try simp only[zA]
 refine tk 5 (.pointer (some ⟨g,2,none⟩)) (some 8) hH ?_
 try simp only[zA]
 refine Qah 6 (.slice A1 b.receipts.length a1) (some 9) rfl rfl (by kernel_rfl) (Or.inl ⟨by rfl,?yc6⟩) hH ?rc6
 case yc6=>intro w' hS';have A0:=hS'.a;obtain⟨r0,f0⟩:=A0.rules;go_simp;try with_reducible rfl
 try simp only[zA]
 refine tk 8 (.pointer (some ⟨g,3,none⟩)) (some 11) hH ?_
 try simp only[zA]
 refine Qah 9 (.slice A2 b.heads.length a2) (some 12) rfl rfl (by kernel_rfl) (Or.inl ⟨by rfl,?yc8⟩) hH ?rc8
 case yc8=>intro w' hS';have A0:=hS'.a;obtain⟨r0,f0⟩:=A0.rules;go_simp;try with_reducible rfl
 try simp only[zA]
 refine tk 11 (.pointer (some ⟨g,4,none⟩)) (some 14) hH ?_
 try simp only[zA]
 refine Qah 12 (.agg #[.int .i64 b.sealed.leaves.size,.slice A3 b.sealed.leaves.peaks.length a3,.int .i64 b.sealed.taken.size,.slice A4 b.sealed.taken.peaks.length a4,.int .i64 b.sealed.head.number,.int .i64 b.sealed.head.size,.string b.sealed.head.root,.int .i64 b.sealed.head.taken,.string b.sealed.head.takenRoot]) (some 15) rfl rfl (by kernel_rfl) (Or.inl ⟨by rfl,?yc10⟩) hH ?rc10
 case yc10=>intro w' hS';have A0:=hS'.a;obtain⟨r0,f0⟩:=A0.rules;go_simp;try with_reducible rfl
 try simp only[zA]
 refine oneH 4 (oi:=_) (some 7) (by kernel_rfl) rfl rfl rfl (fun K' hK=>?_)
 refine⟨?_⟩
 rw[if_pos (by rfl)]
 go_simp
 refine(Qn4 A0 a0 b.log.entries _ (S0.out.ext hH.x).e hl.e).mono ?_
 rintro e w2 ⟨v,rfl,he,h1⟩
 replace he:=Qaj (B':=g+2) he hH.lt
 obtain⟨V0,v0,rfl,_⟩:=Qae he
 refine hK.out _ _ ⟨_,rfl⟩ (hH.ext h1) (fun hH2=>?_)
 clear hK K' hH h1
 have hH:=hH2
 clear hH2
 try simp only[zB]
 refine oneH 7 (oi:=_) (some 10) (by kernel_rfl) rfl rfl rfl (fun K' hK=>?_)
 refine⟨?_⟩
 rw[if_pos (by rfl)]
 go_simp
 refine(Qq4 A1 a1 b.receipts _ (S0.out.ext hH.x).r hl.r).mono ?_
 rintro e w3 ⟨v,rfl,hr,h1⟩
 replace hr:=Qaj (B':=g+2) hr hH.lt
 obtain⟨V1,v1,rfl,_⟩:=Qae hr
 replace he:=Qag he h1
 refine hK.out _ _ ⟨_,rfl⟩ (hH.ext h1) (fun hH2=>?_)
 clear hK K' hH h1
 have hH:=hH2
 clear hH2
 try simp only[zB]
 refine oneH 10 (oi:=_) (some 13) (by kernel_rfl) rfl rfl rfl (fun K' hK=>?_)
 refine⟨?_⟩
 rw[if_pos (by rfl)]
 go_simp
 refine(Qv4 A2 a2 b.heads _ (S0.out.ext hH.x).h hl.h).mono ?_
 rintro e w4 ⟨v,rfl,hh,h1⟩
 replace hh:=Qaj (B':=g+2) hh hH.lt
 obtain⟨V2,v2,rfl,_⟩:=Qae hh
 replace he:=Qag he h1
 replace hr:=Qag hr h1
 refine hK.out _ _ ⟨_,rfl⟩ (hH.ext h1) (fun hH2=>?_)
 clear hK K' hH h1
 have hH:=hH2
 clear hH2
 try simp only[zB]
 refine oneH 13 (oi:=_) (some 16) (by kernel_rfl) rfl rfl rfl (fun K' hK=>?_)
 refine⟨?_⟩
 rw[if_pos (by rfl)]
 go_simp
 refine(Qr8 b.sealed.leaves.size b.sealed.taken.size b.sealed.head A3 a3 b.sealed.leaves.peaks A4 a4 b.sealed.taken.peaks _ (S0.out.ext hH.x).u (S0.out.ext hH.x).v hl.u hl.v).mono ?_
 rintro e w5 ⟨v,v',rfl,hu,hv,ap,h1⟩
 replace hu:=Qaj (B':=g+2) hu hH.lt
 obtain⟨V3,v3,rfl,_⟩:=Qae hu
 replace hv:=Qaj (B':=g+2) hv hH.lt
 obtain⟨V4,v4,rfl,_⟩:=Qae hv
 replace he:=Qag he h1
 replace hr:=Qag hr h1
 replace hh:=Qag hh h1
 refine hK.out _ _ ⟨_,rfl⟩ (hH.ext h1) (fun hH2=>?_)
 clear hK K' hH h1
 have hH:=hH2
 clear hH2
 try simp only[zB]
 have OE:=hU he;have OR:=hU hr;have OH:=hU hh;have OU:=hU hu;have OV:=hU hv;have AP:=hU ap;clear he hr hh hu hv ap
 refine Qah 14 (.agg #[.int .i64 b.width,.slice V0 b.log.entries.length v0,.slice V1 b.receipts.length v1,.slice V2 b.heads.length v2,.int .i64 b.sealed.leaves.size,.slice V3 b.sealed.leaves.peaks.length v3,.int .i64 b.sealed.taken.size,.slice V4 b.sealed.taken.peaks.length v4,.int .i64 b.sealed.head.number,.int .i64 b.sealed.head.size,.string b.sealed.head.root,.int .i64 b.sealed.head.taken,.string b.sealed.head.takenRoot]) (some 17) rfl rfl (by kernel_rfl) (Or.inl ⟨by rfl,?yc11⟩) hH ?rc11
 case yc11=>intro w' hS';have A0:=hS'.a;obtain⟨r0,f0⟩:=A0.rules;go_simp;try with_reducible rfl
 try simp only[zA]
 refine oneH 15 (oi:=_) none (by kernel_rfl) rfl rfl rfl (fun K' hK=>?_)
 refine⟨?_⟩;rw[if_pos (by rfl)]
 refine Qao 37 _ _ (by rfl) (by rfl) (g+1) 0 [.int .i64 b.width,.slice V0 b.log.entries.length v0,.slice V1 b.receipts.length v1,.slice V2 b.heads.length v2,.int .i64 b.sealed.leaves.size,.slice V3 b.sealed.leaves.peaks.length v3,.int .i64 b.sealed.taken.size,.slice V4 b.sealed.taken.peaks.length v4,.int .i64 b.sealed.head.number,.int .i64 b.sealed.head.size,.string b.sealed.head.root,.int .i64 b.sealed.head.taken,.string b.sealed.head.takenRoot] (by rfl) (by rfl) hH.there (by kernel_rfl) (by rfl) ?_
 obtain⟨hn,bz⟩:=hH.put hgw [.int .i64 b.width,.slice V0 b.log.entries.length v0,.slice V1 b.receipts.length v1,.slice V2 b.heads.length v2,.int .i64 b.sealed.leaves.size,.slice V3 b.sealed.leaves.peaks.length v3,.int .i64 b.sealed.taken.size,.slice V4 b.sealed.taken.peaks.length v4,.int .i64 b.sealed.head.number,.int .i64 b.sealed.head.size,.string b.sealed.head.root,.int .i64 b.sealed.head.taken,.string b.sealed.head.takenRoot] rfl
 have BZ:=hU bz;clear bz
 have OO:Hid (Qb9 w.heap.size _ b _ _ _ _ _):=hU (⟨Qa2 (B:=w.heap.size) (g:=g+1) OE.out (by omega) (by omega) [.int .i64 b.width,.slice V0 b.log.entries.length v0,.slice V1 b.receipts.length v1,.slice V2 b.heads.length v2,.int .i64 b.sealed.leaves.size,.slice V3 b.sealed.leaves.peaks.length v3,.int .i64 b.sealed.taken.size,.slice V4 b.sealed.taken.peaks.length v4,.int .i64 b.sealed.head.number,.int .i64 b.sealed.head.size,.string b.sealed.head.root,.int .i64 b.sealed.head.taken,.string b.sealed.head.takenRoot] 0,Qa2 (B:=w.heap.size) (g:=g+1) OR.out (by omega) (by omega) [.int .i64 b.width,.slice V0 b.log.entries.length v0,.slice V1 b.receipts.length v1,.slice V2 b.heads.length v2,.int .i64 b.sealed.leaves.size,.slice V3 b.sealed.leaves.peaks.length v3,.int .i64 b.sealed.taken.size,.slice V4 b.sealed.taken.peaks.length v4,.int .i64 b.sealed.head.number,.int .i64 b.sealed.head.size,.string b.sealed.head.root,.int .i64 b.sealed.head.taken,.string b.sealed.head.takenRoot] 0,Qa2 (B:=w.heap.size) (g:=g+1) OH.out (by omega) (by omega) [.int .i64 b.width,.slice V0 b.log.entries.length v0,.slice V1 b.receipts.length v1,.slice V2 b.heads.length v2,.int .i64 b.sealed.leaves.size,.slice V3 b.sealed.leaves.peaks.length v3,.int .i64 b.sealed.taken.size,.slice V4 b.sealed.taken.peaks.length v4,.int .i64 b.sealed.head.number,.int .i64 b.sealed.head.size,.string b.sealed.head.root,.int .i64 b.sealed.head.taken,.string b.sealed.head.takenRoot] 0,Qa2 (B:=w.heap.size) (g:=g+1) OU.out (by omega) (by omega) [.int .i64 b.width,.slice V0 b.log.entries.length v0,.slice V1 b.receipts.length v1,.slice V2 b.heads.length v2,.int .i64 b.sealed.leaves.size,.slice V3 b.sealed.leaves.peaks.length v3,.int .i64 b.sealed.taken.size,.slice V4 b.sealed.taken.peaks.length v4,.int .i64 b.sealed.head.number,.int .i64 b.sealed.head.size,.string b.sealed.head.root,.int .i64 b.sealed.head.taken,.string b.sealed.head.takenRoot] 0,Qa2 (B:=w.heap.size) (g:=g+1) OV.out (by omega) (by omega) [.int .i64 b.width,.slice V0 b.log.entries.length v0,.slice V1 b.receipts.length v1,.slice V2 b.heads.length v2,.int .i64 b.sealed.leaves.size,.slice V3 b.sealed.leaves.peaks.length v3,.int .i64 b.sealed.taken.size,.slice V4 b.sealed.taken.peaks.length v4,.int .i64 b.sealed.head.number,.int .i64 b.sealed.head.size,.string b.sealed.head.root,.int .i64 b.sealed.head.taken,.string b.sealed.head.takenRoot] 0⟩)
 refine hK.out _ _ ⟨undef,rfl⟩ (hn) (fun hH2=>?_)
 clear hK K' hH
 have hH:=hH2
 clear hH2
 try simp only[zB]
 generalize w5.setCells (g+1) 0 [.int .i64 b.width,.slice V0 b.log.entries.length v0,.slice V1 b.receipts.length v1,.slice V2 b.heads.length v2,.int .i64 b.sealed.leaves.size,.slice V3 b.sealed.leaves.peaks.length v3,.int .i64 b.sealed.taken.size,.slice V4 b.sealed.taken.peaks.length v4,.int .i64 b.sealed.head.number,.int .i64 b.sealed.head.size,.string b.sealed.head.root,.int .i64 b.sealed.head.taken,.string b.sealed.head.takenRoot]=w9 at *
 refine wpAnyH_done (by kernel_rfl) ?_ _
 go_wp2_with fail
 exact Qdc rfl rfl BZ.out Tryz.underlying37 rfl (by kernel_rfl) rfl ⟨_,_,_,_,_,_,_,_,_,_,rfl,OO.out,AP.out,hH.x⟩
end Go.Proofs.YtbnkjgcpjeedfaaGreat
