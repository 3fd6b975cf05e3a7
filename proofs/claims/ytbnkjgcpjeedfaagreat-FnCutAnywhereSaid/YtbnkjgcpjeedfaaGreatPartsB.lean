/-
  PartsB: No condition.
-/
import Derived.Test.YtbnkjgcpjeedfaaGreatSealsB
import Derived.Test.YtbnkjgcpjeedfaaGreatLeafI
import Derived.Test.YtbnkjgcpjeedfaaGreatRecs
import Derived.Test.YtbnkjgcpjeedfaaGreatHeadsOk2
import Derived.Test.YtbnkjgcpjeedfaaGreatReopen0
import Derived.Test.YtbnkjgcpjeedfaaGreatBunch
namespace Go.Proofs.YtbnkjgcpjeedfaaGreat
set_option maxHeartbeats 4000000
set_option maxRecDepth 100000
set_option linter.unusedSimpArgs false
open Go.RowKit
set_option linter.unusedVariables false
def BrkC (w:World) (g:Nat) (b:Qad) (A0:Option Addr) (c0:Nat) (A1:Option Addr) (c1:Nat) (A2:Option Addr) (c2:Nat):Prop:=
 g<w.heap.size/\w.cell? ⟨g,0,none⟩=some (.int .i64 b.width)/\w.cell? ⟨g,1,none⟩=some (.slice A0 b.log.entries.length c0)/\w.cell? ⟨g,2,none⟩=some (.slice A1 b.receipts.length c1)/\w.cell? ⟨g,3,none⟩=some (.slice A2 b.heads.length c2)
theorem BrkC.ext{w w':World}{g:Nat}{b:Qad}{A0:Option Addr}{c0:Nat}{A1:Option Addr}{c1:Nat}{A2:Option Addr}{c2:Nat}(h:BrkC w g b A0 c0 A1 c1 A2 c2)(he:Ext w w'):BrkC w' g b A0 c0 A1 c1 A2 c2:=by
 obtain⟨h1,h2,h3,h4,h5⟩:=h
 exact⟨Nat.lt_of_lt_of_le h1 he.size,(he.cell (p:=⟨g,0,none⟩) h1).trans h2,(he.cell (p:=⟨g,1,none⟩) h1).trans h3,(he.cell (p:=⟨g,2,none⟩) h1).trans h4,(he.cell (p:=⟨g,3,none⟩) h1).trans h5⟩
def Quq (w:World) (b:Qad) (e:Ending) (w':World):Prop:=
 Ext w w'/\((Qbu b=false/\e=.returned (.tuple #[.agg (Qhu hz).toArray,.bool false]))\/
  (Qbu b=true/\∃ v1 v2,e=.returned (.tuple #[.agg (Qb1 (Qbx b.width (Qa8 b.width b.log.entries) (Qbp b.width b.receipts) (Qaw b.heads)).leaves.size v1 (Qbx b.width (Qa8 b.width b.log.entries) (Qbp b.width b.receipts) (Qaw b.heads)).taken.size v2 (Qaw b.heads)).toArray,.bool true])/\
   RowT w.heap.size w' v1 (Qbx b.width (Qa8 b.width b.log.entries) (Qbp b.width b.receipts) (Qaw b.heads)).leaves.peaks/\RowT w.heap.size w' v2 (Qbx b.width (Qa8 b.width b.log.entries) (Qbp b.width b.receipts) (Qaw b.heads)).taken.peaks/\(∀ x,v1.ownBlock=some x->v2.ownBlock≠some x)))
theorem Qs4(b:Qad):Qbu b=(inR b.width 1 32&&Qgj b.log.entries&&Qdx b.receipts&&decide (0<b.heads.length)&&Qdj b.width b.heads&&Qcm b.width (Qa8 b.width b.log.entries) (Qbp b.width b.receipts) b.heads&&Qed (Qh6 b) b.receipts.length):=by
 simp only[Qbu,Qcm,Bool.and_assoc]
theorem Qhg{wd:Int}{L T:List ByteArray}{hs:List Qak}(h0:0<hs.length):Qa5 wd L T hs hs.length=Qbx wd L T (Qaw hs):=by
 obtain⟨j,hj⟩:∃ j,hs.length=j+1:=⟨hs.length-1,by omega⟩
 have hl:=Qgc h0
 rw[hj,Nat.add_sub_cancel] at hl
 rw[hj];exact Qep hl
theorem Qxb{b:Qad}{k:Nat}{r:Qab}(hr:b.receipts[k]?=some r)(hs:0<=(Qaw b.heads).size):Qh6 b k=inR (idxB (ofTI r.topic r.index) b.log.entries) 0 ((Qaw b.heads).size-1):=by
 rw[Qh6,hr]
 simp only
 rw[Qif]
 have:(((Qaw b.heads).size.toNat:Int))=(Qaw b.heads).size:=by omega
 rw[this];rfl
theorem Qin{w:World}{g t:Nat}{cs:Array Value}(h:Blk w g t cs):∃ w6,w6=w:=⟨w,rfl⟩
def Qfr (b:Qad) (LH TH:List ByteArray) (w0:World) (cs:List Value) (w:World):Prop:=
 Qcm b.width LH TH b.heads=true->∃ v1 v2,cs=Qb1 (Qa5 b.width LH TH b.heads b.heads.length).leaves.size v1 (Qa5 b.width LH TH b.heads b.heads.length).taken.size v2 (Qa5 b.width LH TH b.heads b.heads.length).head/\
  RowT w0.heap.size w v1 (Qa5 b.width LH TH b.heads b.heads.length).leaves.peaks/\RowT w0.heap.size w v2 (Qa5 b.width LH TH b.heads b.heads.length).taken.peaks/\(∀ x,v1.ownBlock=some x->v2.ownBlock≠some x)
theorem Qfr.ext{b:Qad}{LH TH:List ByteArray}{w0 w w':World}{cs:List Value}(h:Qfr b LH TH w0 cs w)(he:Ext w w'):Qfr b LH TH w0 cs w':=fun hb=>by
 obtain⟨v1,v2,e,r1,r2,ap⟩:=h hb
 exact⟨v1,v2,e,r1.ext he,r2.ext he,ap⟩
theorem Qfr.set{b:Qad}{LH TH:List ByteArray}{w0 w:World}{cs:List Value}{q:Nat}{xs:Array Value}{ys:List Value}{o:Nat}(h:Qfr b LH TH w0 cs w)(hq:Blk w q 35 xs):Qfr b LH TH w0 cs (w.setCells q o ys):=fun hb=>by
 obtain⟨v1,v2,e,r1,r2,ap⟩:=h hb
 have hk5:Frm (fun b=>b=q) w (w.setCells q o ys):=Frm.setCells (X:=fun b=>b=q) (Frm.refl _ w) (g:=q) (fun _=>rfl) _ _
 exact⟨v1,v2,e,hk5.own r1 (fun b hb=>RowT.apart r1 hq (by decide) b hb),hk5.own r2 (fun b hb=>RowT.apart r2 hq (by decide) b hb),ap⟩
theorem Qsu(b:Qad)(w:World)(LH TH:List ByteArray)(Al:Option Addr)(cl:Nat)(At:Option Addr)(ct:Nat)(A2:Option Addr)(c2:Nat)(u:World)(hu:Ext w u)(hwd:inR b.width 1 32=true)(hv1:RowT w.heap.size u (.slice Al LH.length cl) LH)(hv2:RowT w.heap.size u (.slice At TH.length ct) TH)
 (hH:SlF AnyB Qak.cells 5 u A2 b.heads c2) (hok:Qdj b.width b.heads=true) (hpos:0<b.heads.length) (hLw:∀ x∈LH,WdT b.width x) (hTw:∀ x∈TH,WdT b.width x) (hLl:LH.length<=512) (hTl:TH.length<=512) :
 Calls Tryz.prog 117 #[.int .i64 b.width,.slice Al LH.length cl,.slice At TH.length ct,.slice A2 b.heads.length c2] u fun e w'=>Ext u w'/\∃ cs,e=.returned (.tuple #[.agg cs.toArray,.bool (Qcm b.width LH TH b.heads)])/\cs.length=9/\cs.all (·.oneCell')=true/\Qfr b LH TH w cs w':=by
 obtain⟨_,_,e1,l1,m1,_⟩:=hv1.cells
 cases e1
 obtain⟨_,_,e2,l2,m2,_⟩:=hv2.cells
 cases e2
 refine(Qsv b.width hwd Al cl LH At ct TH A2 c2 b.heads u (Qbb.of_own hv1) (Qbb.of_own hv2) hH hok hpos hLw hTw hLl hTl l1 l2 m1 m2).mono ?_
 rintro e w' ⟨h1,h⟩
 refine⟨h1,?_⟩
 rcases h with⟨hb,rfl⟩|⟨hb,v1,v2,rfl,r1,r2,ap⟩
 · exact⟨Qhu hz,by rw[hb],rfl,rfl,fun h=>by rw[hb] at h;cases h⟩
 · obtain⟨a1,b1,hf1,_⟩:=Qae r1
   obtain⟨a2,b2,hf2,_⟩:=Qae r2
   refine⟨_,by rw[hb],rfl,by rw[hf1,hf2];rfl,fun _=>⟨v1,v2,rfl,Qaj r1 hu.size,Qaj r2 hu.size,ap⟩⟩
theorem Qlz(g:Nat)(b:Qad)(A0:Option Addr)(c0:Nat)(A1:Option Addr)(c1:Nat)(A2:Option Addr)(c2:Nat)(w:World)(hB:BrkC w g b A0 c0 A1 c1 A2 c2)
 (s0:SlF AnyB Qaf.cells 5 w A0 b.log.entries c0) (s1:SlF AnyB Qab.cells 3 w A1 b.receipts c1) (s2:SlF AnyB Qak.cells 5 w A2 b.heads c2) (ok0:∀ x∈b.log.entries,x.Ok) (ok1:∀ x∈b.receipts,x.Ok) :
 Calls Tryz.prog 63 #[.pointer (some ⟨g,0,none⟩)] w (Quq w b):=by
 have KZ:=hU (Blk.new w 35 #[.int .i64 0,.slice none 0 0,.int .i64 0,.slice none 0 0,.int .i64 0,.int .i64 0,.string ⟨#[]⟩,.int .i64 0,.string ⟨#[]⟩])
 have HE:=hU (Ext.new (Below.refl w.heap.size w) (.cells #[.int .i64 0,.slice none 0 0,.int .i64 0,.slice none 0 0,.int .i64 0,.int .i64 0,.string ⟨#[]⟩,.int .i64 0,.string ⟨#[]⟩] 35))
 have S0:=hU s0;have S1:=hU s1;have S2:=hU s2;have O0:=hU ok0;have O1:=hU ok1
 have l0:=s0.len;have l1:=s1.len;have l2:=s2.len
 unfold maxLen at l0 l1 l2
 have LO:=hU (fun(W:World) (hW:Ext w W)=>Qko A0 c0 b.log.entries W (s0.ext hW) ok0)
 have RO:=hU (fun(W:World) (hW:Ext w W)=>Qgp A1 c1 b.receipts W (s1.ext hW) ok1)
 have HO:=hU (fun(W:World) (hW:Ext w W)=>Qnm b.width A2 c2 b.heads W (s2.ext hW))
 have F:=hU (Qs4 b)
 have BC:=hU hB
 obtain⟨hg,x0,x1,x2,x3⟩:=hB.ext HE.out
 unfold Quq
 simp only[Qhu,hz]
 obtain⟨n0,hn0⟩:∃ n0,n0=b.log.entries.length:=⟨_,rfl⟩
 obtain⟨n1,hn1⟩:∃ n1,n1=b.receipts.length:=⟨_,rfl⟩
 obtain⟨n2,hn2⟩:∃ n2,n2=b.heads.length:=⟨_,rfl⟩
 rw[<-hn0] at x1 LO l0
 rw[<-hn1] at x2 RO l1 F
 rw[<-hn2] at x3 HO l2 F
 have N0:=hU hn0;have N1:=hU hn1;have N2:=hU hn2
 clear s0 s1 s2 ok0 ok1 hn0 hn1 hn2 hB
 go_enter Tryz.func63,Tryz.ntmps63
 go_wp2_with fail
 obtain⟨p,hp⟩:∃ p,p=w.heap.size:=⟨_,rfl⟩
 have KZ:=hU (show Blk _ p _ _ by rw[hp];exact KZ.out)
 rw[<-hp]
 have Hp:=hU hp
 clear hp
 generalize w.alloc (.cells #[.int .i64 0,.slice none 0 0,.int .i64 0,.slice none 0 0,.int .i64 0,.int .i64 0,.string ⟨#[]⟩,.int .i64 0,.string ⟨#[]⟩] 35)=w1 at *
 refine(Qbn b.width _).mono ?_
 rintro e wx ⟨rfl,rfl⟩
 cases p1:inR b.width 1 32
 · have E:=hU (show Qbu b=false from by rw[F.out,p1];rfl)
   have TZ:=hU (KZ.out.there 0 9 (by simp))
   obtain⟨w4,hw4,kz,hx⟩:∃ w4,w4=w1.setCells p 0 [.int .i64 0,.slice none 0 0,.int .i64 0,.slice none 0 0,.int .i64 0,.int .i64 0,.string ⟨#[]⟩,.int .i64 0,.string ⟨#[]⟩]/\Blk w4 p 35 #[.int .i64 0,.slice none 0 0,.int .i64 0,.slice none 0 0,.int .i64 0,.int .i64 0,.string ⟨#[]⟩,.int .i64 0,.string ⟨#[]⟩]/\Ext w w4:=
    ⟨_,rfl,KZ.out.put 0 [.int .i64 0,.slice none 0 0,.int .i64 0,.slice none 0 0,.int .i64 0,.int .i64 0,.string ⟨#[]⟩,.int .i64 0,.string ⟨#[]⟩] #[.int .i64 0,.slice none 0 0,.int .i64 0,.slice none 0 0,.int .i64 0,.int .i64 0,.string ⟨#[]⟩,.int .i64 0,.string ⟨#[]⟩] (by simp) rfl,Qaa (W:=w) (g:=p) (by have:=Hp.out;omega) [.int .i64 0,.slice none 0 0,.int .i64 0,.slice none 0 0,.int .i64 0,.int .i64 0,.string ⟨#[]⟩,.int .i64 0,.string ⟨#[]⟩] 0 _ HE.out⟩
   have HW:=hU hw4;have KZ4:=hU kz;have HX:=hU hx
   clear hw4 kz hx
   go_wp2_with (first|(refine Qac rfl 35 _ _ rfl rfl p 0 [.int .i64 0,.slice none 0 0,.int .i64 0,.slice none 0 0,.int .i64 0,.int .i64 0,.string ⟨#[]⟩,.int .i64 0,.string ⟨#[]⟩] rfl rfl TZ.out (by kernel_rfl) (by rfl) ?_;rw[<-HW.out]))
   exact Qat rfl rfl KZ4.out Tryz.underlying35 rfl (by kernel_rfl) rfl ⟨HX.out,Or.inl ⟨E.out,rfl⟩⟩
 go_wp2_with fail
 refine(LO.out _ HE.out).mono ?_
 rintro e w2 ⟨rfl,h1⟩
 replace HE:=hU (HE.out.next h1);replace KZ:=hU (KZ.out.ext h1)
 clear h1 hg x0 x1 x2 x3
 obtain⟨hg,x0,x1,x2,x3⟩:=BC.out.ext HE.out
 rw[<-N0.out] at x1
 rw[<-N1.out] at x2
 rw[<-N2.out] at x3
 cases p2:Qgj b.log.entries
 · have E:=hU (show Qbu b=false from by rw[F.out,p1,p2];rfl)
   have TZ:=hU (KZ.out.there 0 9 (by simp))
   obtain⟨w4,hw4,kz,hx⟩:∃ w4,w4=w2.setCells p 0 [.int .i64 0,.slice none 0 0,.int .i64 0,.slice none 0 0,.int .i64 0,.int .i64 0,.string ⟨#[]⟩,.int .i64 0,.string ⟨#[]⟩]/\Blk w4 p 35 #[.int .i64 0,.slice none 0 0,.int .i64 0,.slice none 0 0,.int .i64 0,.int .i64 0,.string ⟨#[]⟩,.int .i64 0,.string ⟨#[]⟩]/\Ext w w4:=
    ⟨_,rfl,KZ.out.put 0 [.int .i64 0,.slice none 0 0,.int .i64 0,.slice none 0 0,.int .i64 0,.int .i64 0,.string ⟨#[]⟩,.int .i64 0,.string ⟨#[]⟩] #[.int .i64 0,.slice none 0 0,.int .i64 0,.slice none 0 0,.int .i64 0,.int .i64 0,.string ⟨#[]⟩,.int .i64 0,.string ⟨#[]⟩] (by simp) rfl,Qaa (W:=w) (g:=p) (by have:=Hp.out;omega) [.int .i64 0,.slice none 0 0,.int .i64 0,.slice none 0 0,.int .i64 0,.int .i64 0,.string ⟨#[]⟩,.int .i64 0,.string ⟨#[]⟩] 0 _ HE.out⟩
   have HW:=hU hw4;have KZ4:=hU kz;have HX:=hU hx
   clear hw4 kz hx
   go_wp2_with (first|(refine Qac rfl 35 _ _ rfl rfl p 0 [.int .i64 0,.slice none 0 0,.int .i64 0,.slice none 0 0,.int .i64 0,.int .i64 0,.string ⟨#[]⟩,.int .i64 0,.string ⟨#[]⟩] rfl rfl TZ.out (by kernel_rfl) (by rfl) ?_;rw[<-HW.out]))
   exact Qat rfl rfl KZ4.out Tryz.underlying35 rfl (by kernel_rfl) rfl ⟨HX.out,Or.inl ⟨E.out,rfl⟩⟩
 go_wp2_with fail
 refine(RO.out _ HE.out).mono ?_
 rintro e w3 ⟨rfl,h1⟩
 replace HE:=hU (HE.out.next h1);replace KZ:=hU (KZ.out.ext h1)
 clear h1 hg x0 x1 x2 x3
 obtain⟨hg,x0,x1,x2,x3⟩:=BC.out.ext HE.out
 rw[<-N0.out] at x1
 rw[<-N1.out] at x2
 rw[<-N2.out] at x3
 cases p3:Qdx b.receipts
 · have E:=hU (show Qbu b=false from by rw[F.out,p1,p2,p3];rfl)
   have TZ:=hU (KZ.out.there 0 9 (by simp))
   obtain⟨w4,hw4,kz,hx⟩:∃ w4,w4=w3.setCells p 0 [.int .i64 0,.slice none 0 0,.int .i64 0,.slice none 0 0,.int .i64 0,.int .i64 0,.string ⟨#[]⟩,.int .i64 0,.string ⟨#[]⟩]/\Blk w4 p 35 #[.int .i64 0,.slice none 0 0,.int .i64 0,.slice none 0 0,.int .i64 0,.int .i64 0,.string ⟨#[]⟩,.int .i64 0,.string ⟨#[]⟩]/\Ext w w4:=
    ⟨_,rfl,KZ.out.put 0 [.int .i64 0,.slice none 0 0,.int .i64 0,.slice none 0 0,.int .i64 0,.int .i64 0,.string ⟨#[]⟩,.int .i64 0,.string ⟨#[]⟩] #[.int .i64 0,.slice none 0 0,.int .i64 0,.slice none 0 0,.int .i64 0,.int .i64 0,.string ⟨#[]⟩,.int .i64 0,.string ⟨#[]⟩] (by simp) rfl,Qaa (W:=w) (g:=p) (by have:=Hp.out;omega) [.int .i64 0,.slice none 0 0,.int .i64 0,.slice none 0 0,.int .i64 0,.int .i64 0,.string ⟨#[]⟩,.int .i64 0,.string ⟨#[]⟩] 0 _ HE.out⟩
   have HW:=hU hw4;have KZ4:=hU kz;have HX:=hU hx
   clear hw4 kz hx
   go_wp2_with (first|(refine Qac rfl 35 _ _ rfl rfl p 0 [.int .i64 0,.slice none 0 0,.int .i64 0,.slice none 0 0,.int .i64 0,.int .i64 0,.string ⟨#[]⟩,.int .i64 0,.string ⟨#[]⟩] rfl rfl TZ.out (by kernel_rfl) (by rfl) ?_;rw[<-HW.out]))
   exact Qat rfl rfl KZ4.out Tryz.underlying35 rfl (by kernel_rfl) rfl ⟨HX.out,Or.inl ⟨E.out,rfl⟩⟩
 have HWD:=hU p1
 go_upto_region 3 with fail
 rw[p1,p2,p3] at F
 have P2:=hU p2;have P3:=hU p3
 clear p1 p2 p3
 have BH:=fun(W:World) (h:Ext w W)=>BC.out.ext h
 have BH:=hU BH
 clear hg x0 x1 x2 x3
 refine wp_region_held_drew (S:=fun w'=>Blk w' p 35 #[.int .i64 0,.slice none 0 0,.int .i64 0,.slice none 0 0,.int .i64 0,.int .i64 0,.string ⟨#[]⟩,.int .i64 0,.string ⟨#[]⟩]/\Ext w w') (by kernel_rfl) ⟨KZ.out.drew,HE.out.drew⟩ (fun hH=>?_)
 clear KZ HE
 refine tk 0 (.pointer (some ⟨g,0,none⟩)) (some 32) hH ?_
 try simp only[zA]
 refine tk 1 (.pointer (some ⟨g,0,none⟩)) (some 33) hH ?_
 try simp only[zA]
 refine tk 2 (.pointer (some ⟨g,3,none⟩)) (some 34) hH ?_
 try simp only[zA]
 refine Qah 3 (.slice A2 n2 c2) (some 35) rfl rfl (by kernel_rfl) (Or.inl ⟨by rfl,?ypa4⟩) hH ?rpa4
 case ypa4=>intro w' hS';obtain⟨s0,s1⟩:=hS';obtain⟨hg,x0,x1,x2,x3⟩:=BH.out _ s1;rw[<-N0.out] at x1;rw[<-N1.out] at x2;rw[<-N2.out] at x3;go_simp;try with_reducible rfl
 try simp only[zA]
 refine Qah 4 (.int .i64 (n2:Int)) (some 36) rfl rfl (by kernel_rfl) (Or.inl ⟨by rfl,?ypa5⟩) hH ?rpa5
 case ypa5=>intro w' hS';obtain⟨s0,s1⟩:=hS';obtain⟨hg,x0,x1,x2,x3⟩:=BH.out _ s1;rw[<-N0.out] at x1;rw[<-N1.out] at x2;rw[<-N2.out] at x3;go_simp;try with_reducible rfl
 try simp only[zA]
 rcases Nat.eq_zero_or_pos n2 with z2|z2
 · have zz:((n2:Int)==0)=true:=beq_iff_eq.2 (by omega)
   have zz':((0:Int)==0)=true:=rfl
   have Z2:=hU z2
   clear z2
   refine tk 5 (.bool true) (some 37) hH ?_
   try simp only[zA]
   refine tk 6 (.bool true) (some 38) hH ?_
   try simp only[zA]
   refine tu 7 (some 39) hH ?_
   try simp only[zB]
   refine tu 8 (some 40) hH ?_
   try simp only[zB]
   refine tu 9 (some 41) hH ?_
   try simp only[zB]
   refine tu 10 (some 42) hH ?_
   try simp only[zB]
   refine tu 11 (some 43) hH ?_
   try simp only[zB]
   refine tu 12 (some 44) hH ?_
   try simp only[zB]
   refine tu 13 (some 45) hH ?_
   try simp only[zB]
   refine tu 14 (some 46) hH ?_
   try simp only[zB]
   refine tu 15 (some 47) hH ?_
   try simp only[zB]
   refine tu 16 (some 48) hH ?_
   try simp only[zB]
   refine tk 17 (.bool true) (some 49) hH ?_
   try simp only[zA]
   have HE:=hU hH.2
   have KZ:=hU hH.1
   clear hH
   refine wpAnyH_done (by kernel_rfl) ?_ _
   have E:=hU (show Qbu b=false from by rw[F.out,Z2.out];rfl)
   have TZ:=hU (KZ.out.there 0 9 (by simp))
   obtain⟨w4,hw4,kz,hx⟩:∃ w4,w4=w3.drew.setCells p 0 [.int .i64 0,.slice none 0 0,.int .i64 0,.slice none 0 0,.int .i64 0,.int .i64 0,.string ⟨#[]⟩,.int .i64 0,.string ⟨#[]⟩]/\Blk w4 p 35 #[.int .i64 0,.slice none 0 0,.int .i64 0,.slice none 0 0,.int .i64 0,.int .i64 0,.string ⟨#[]⟩,.int .i64 0,.string ⟨#[]⟩]/\Ext w w4:=
    ⟨_,rfl,KZ.out.put 0 [.int .i64 0,.slice none 0 0,.int .i64 0,.slice none 0 0,.int .i64 0,.int .i64 0,.string ⟨#[]⟩,.int .i64 0,.string ⟨#[]⟩] #[.int .i64 0,.slice none 0 0,.int .i64 0,.slice none 0 0,.int .i64 0,.int .i64 0,.string ⟨#[]⟩,.int .i64 0,.string ⟨#[]⟩] (by simp) rfl,Qaa (W:=w) (g:=p) (by have:=Hp.out;omega) [.int .i64 0,.slice none 0 0,.int .i64 0,.slice none 0 0,.int .i64 0,.int .i64 0,.string ⟨#[]⟩,.int .i64 0,.string ⟨#[]⟩] 0 _ HE.out⟩
   have HW:=hU hw4;have KZ4:=hU kz;have HX:=hU hx
   clear hw4 kz hx
   go_wp2_with (first|(refine Qac rfl 35 _ _ rfl rfl p 0 [.int .i64 0,.slice none 0 0,.int .i64 0,.slice none 0 0,.int .i64 0,.int .i64 0,.string ⟨#[]⟩,.int .i64 0,.string ⟨#[]⟩] rfl rfl TZ.out (by kernel_rfl) (by rfl) ?_;rw[<-HW.out]))
   exact Qat rfl rfl KZ4.out Tryz.underlying35 rfl (by kernel_rfl) rfl ⟨HX.out,Or.inl ⟨E.out,rfl⟩⟩
 · have zz:((n2:Int)==0)=false:=beq_false_of_ne (by omega)
   refine tk 5 (.bool false) (some 37) hH ?_
   try simp only[zA]
   refine tk 6 (.bool false) (some 38) hH ?_
   try simp only[zA]
   refine tk 7 (.pointer (some ⟨g,0,none⟩)) (some 39) hH ?_
   try simp only[zA]
   refine tk 8 (.pointer (some ⟨g,0,none⟩)) (some 40) hH ?_
   try simp only[zA]
   refine tk 9 (.pointer (some ⟨g,0,none⟩)) (some 41) hH ?_
   try simp only[zA]
   refine Qah 10 (.int .i64 b.width) (some 42) rfl rfl (by kernel_rfl) (Or.inl ⟨by rfl,?ypab6⟩) hH ?rpab6
   case ypab6=>intro w' hS';obtain⟨s0,s1⟩:=hS';obtain⟨hg,x0,x1,x2,x3⟩:=BH.out _ s1;rw[<-N0.out] at x1;rw[<-N1.out] at x2;rw[<-N2.out] at x3;go_simp;try with_reducible rfl
   try simp only[zA]
   refine tk 11 (.pointer (some ⟨g,0,none⟩)) (some 43) hH ?_
   try simp only[zA]
   refine tk 12 (.pointer (some ⟨g,0,none⟩)) (some 44) hH ?_
   try simp only[zA]
   refine tk 13 (.pointer (some ⟨g,3,none⟩)) (some 45) hH ?_
   try simp only[zA]
   refine Qah 14 (.slice A2 n2 c2) (some 46) rfl rfl (by kernel_rfl) (Or.inl ⟨by rfl,?ypab10⟩) hH ?rpab10
   case ypab10=>intro w' hS';obtain⟨s0,s1⟩:=hS';obtain⟨hg,x0,x1,x2,x3⟩:=BH.out _ s1;rw[<-N0.out] at x1;rw[<-N1.out] at x2;rw[<-N2.out] at x3;go_simp;try with_reducible rfl
   try simp only[zA]
   refine Qu5 15 (oi:=_) (some 47) (by kernel_rfl) rfl (by rfl) rfl (fun K' hK=>?_)
   refine⟨?_⟩
   rw[if_pos (by rfl)]
   go_simp
   refine(HO.out _ hH.2).mono ?_
   rintro e wc ⟨rfl,h1⟩
   refine hK.out _ _ ⟨_,rfl⟩ (⟨hH.1.ext h1,hH.2.next h1⟩) (fun hH2=>?_)
   clear hK K' hH h1
   have hH:=hH2
   clear hH2
   try simp only[zB]
   cases p4:Qdj b.width b.heads
   · skip
     refine tk 16 (.bool true) (some 48) hH ?_
     try simp only[zA]
     refine tk 17 (.bool true) (some 49) hH ?_
     try simp only[zA]
     have HE:=hU hH.2
     have KZ:=hU hH.1
     clear hH
     refine wpAnyH_done (by kernel_rfl) ?_ _
     have E:=hU (show Qbu b=false from by rw[F.out,p4];simp)
     have TZ:=hU (KZ.out.there 0 9 (by simp))
     obtain⟨w4,hw4,kz,hx⟩:∃ w4,w4=wc.setCells p 0 [.int .i64 0,.slice none 0 0,.int .i64 0,.slice none 0 0,.int .i64 0,.int .i64 0,.string ⟨#[]⟩,.int .i64 0,.string ⟨#[]⟩]/\Blk w4 p 35 #[.int .i64 0,.slice none 0 0,.int .i64 0,.slice none 0 0,.int .i64 0,.int .i64 0,.string ⟨#[]⟩,.int .i64 0,.string ⟨#[]⟩]/\Ext w w4:=
      ⟨_,rfl,KZ.out.put 0 [.int .i64 0,.slice none 0 0,.int .i64 0,.slice none 0 0,.int .i64 0,.int .i64 0,.string ⟨#[]⟩,.int .i64 0,.string ⟨#[]⟩] #[.int .i64 0,.slice none 0 0,.int .i64 0,.slice none 0 0,.int .i64 0,.int .i64 0,.string ⟨#[]⟩,.int .i64 0,.string ⟨#[]⟩] (by simp) rfl,Qaa (W:=w) (g:=p) (by have:=Hp.out;omega) [.int .i64 0,.slice none 0 0,.int .i64 0,.slice none 0 0,.int .i64 0,.int .i64 0,.string ⟨#[]⟩,.int .i64 0,.string ⟨#[]⟩] 0 _ HE.out⟩
     have HW:=hU hw4;have KZ4:=hU kz;have HX:=hU hx
     clear hw4 kz hx
     go_wp2_with (first|(refine Qac rfl 35 _ _ rfl rfl p 0 [.int .i64 0,.slice none 0 0,.int .i64 0,.slice none 0 0,.int .i64 0,.int .i64 0,.string ⟨#[]⟩,.int .i64 0,.string ⟨#[]⟩] rfl rfl TZ.out (by kernel_rfl) (by rfl) ?_;rw[<-HW.out]))
     exact Qat rfl rfl KZ4.out Tryz.underlying35 rfl (by kernel_rfl) rfl ⟨HX.out,Or.inl ⟨E.out,rfl⟩⟩
   · skip
     refine tk 16 (.bool false) (some 48) hH ?_
     try simp only[zA]
     refine tk 17 (.bool false) (some 49) hH ?_
     try simp only[zA]
     have HE:=hU hH.2
     have KZ:=hU hH.1
     clear hH
     refine wpAnyH_done (by kernel_rfl) ?_ _
     rw[p4,decide_eq_true z2] at F
     have OKH:=hU p4
     have Z2:=hU z2
     clear zz p4 z2
     go_upto_region 5 with fail
     obtain⟨LH,hLH⟩:∃ LH,LH=Qa8 b.width b.log.entries:=⟨_,rfl⟩
     obtain⟨TH,hTH⟩:∃ TH,TH=Qbp b.width b.receipts:=⟨_,rfl⟩
     have HLH:=hU hLH;have HTH:=hU hTH
     rw[<-hLH,<-hTH] at F
     clear hLH hTH
     have C12:=hU (fun(u:World) (hu:Ext w u)=>Ql3 b.width A0 c0 b.log.entries u (S0.out.ext hu) O0.out (by have:=Qgb P2.out;omega))
     rw[<-N0.out] at C12
     have C21:=hU (fun(u:World) (hu:Ext w u)=>Qg2 b.width A1 c1 b.receipts u (S1.out.ext hu) O1.out (by have:=Qe0 P3.out;omega))
     rw[<-N1.out] at C21
     have C26:=hU (fun(u:World) (hu:Ext w u) (Al:Option Addr) (cl:Nat) (At:Option Addr) (ct:Nat) (hv1:RowT w.heap.size u (.slice Al LH.length cl) LH) (hv2:RowT w.heap.size u (.slice At TH.length ct) TH)=>Qsu b w LH TH Al cl At ct A2 c2 u hu HWD.out hv1 hv2 (S2.out.ext hu) OKH.out (by rw[<-N2.out];exact Z2.out) (fun x hx=>by rw[HLH.out] at hx;exact Qib HWD.out P2.out x hx) (fun x hx=>by rw[HTH.out] at hx;exact Qjk HWD.out P3.out x hx) (by rw[HLH.out,Qa8,List.length_map];exact(Qgb P2.out).1) (by rw[HTH.out,Qbp,List.length_map];exact(Qe0 P3.out).1))
     rw[<-N2.out] at C26
     go_cut [4,5] (fun v4 v5 wx=>∃(q:Nat) (cs:List Value),v4=.pointer (some ⟨q,0,none⟩)/\v5=.bool (Qcm b.width LH TH b.heads)/\cs.length=9/\cs.all (·.oneCell')=true/\Blk wx q 35 cs.toArray/\p≠q/\w.heap.size<=q/\Blk wx p 35 #[.int .i64 0,.slice none 0 0,.int .i64 0,.slice none 0 0,.int .i64 0,.int .i64 0,.string ⟨#[]⟩,.int .i64 0,.string ⟨#[]⟩]/\Ext w wx/\Qfr b LH TH w cs wx)
     case first=>
      refine wp_region_held_drew (S:=fun w'=>Blk w' p 35 #[.int .i64 0,.slice none 0 0,.int .i64 0,.slice none 0 0,.int .i64 0,.int .i64 0,.string ⟨#[]⟩,.int .i64 0,.string ⟨#[]⟩]/\Ext w w') (by kernel_rfl) ⟨KZ.out.drew,HE.out.drew⟩ (fun hH=>?_)
      clear KZ HE
      generalize wc.drew=w0 at *
      refine tk 0 (.pointer (some ⟨g,0,none⟩)) (some 52) hH ?_
      try simp only[zA]
      refine tk 1 (.pointer (some ⟨g,0,none⟩)) (some 53) hH ?_
      try simp only[zA]
      refine tk 2 (.pointer (some ⟨g,0,none⟩)) (some 54) hH ?_
      try simp only[zA]
      refine Qah 3 (.int .i64 b.width) (some 55) rfl rfl (by kernel_rfl) (Or.inl ⟨by rfl,?ype4⟩) hH ?rpe4
      case ype4=>intro w' hS';obtain⟨s0,s1⟩:=hS';obtain⟨hg,x0,x1,x2,x3⟩:=BH.out _ s1;rw[<-N0.out] at x1;rw[<-N1.out] at x2;rw[<-N2.out] at x3;go_simp;try with_reducible rfl
      try simp only[zA]
      refine tk 4 (.pointer (some ⟨g,0,none⟩)) (some 56) hH ?_
      try simp only[zA]
      refine tk 5 (.pointer (some ⟨g,0,none⟩)) (some 57) hH ?_
      try simp only[zA]
      refine tk 6 (.pointer (some ⟨g,0,none⟩)) (some 58) hH ?_
      try simp only[zA]
      refine Qah 7 (.int .i64 b.width) (some 59) rfl rfl (by kernel_rfl) (Or.inl ⟨by rfl,?ype8⟩) hH ?rpe8
      case ype8=>intro w' hS';obtain⟨s0,s1⟩:=hS';obtain⟨hg,x0,x1,x2,x3⟩:=BH.out _ s1;rw[<-N0.out] at x1;rw[<-N1.out] at x2;rw[<-N2.out] at x3;go_simp;try with_reducible rfl
      try simp only[zA]
      refine tk 8 (.pointer (some ⟨g,0,none⟩)) (some 60) hH ?_
      try simp only[zA]
      refine tk 9 (.pointer (some ⟨g,0,none⟩)) (some 61) hH ?_
      try simp only[zA]
      refine tk 10 (.pointer (some ⟨g,1,none⟩)) (some 62) hH ?_
      try simp only[zA]
      refine Qah 11 (.agg #[.slice A0 n0 c0]) (some 63) rfl rfl (by kernel_rfl) (Or.inl ⟨by rfl,?ype12⟩) hH ?rpe12
      case ype12=>intro w' hS';obtain⟨s0,s1⟩:=hS';obtain⟨hg,x0,x1,x2,x3⟩:=BH.out _ s1;rw[<-N0.out] at x1;rw[<-N1.out] at x2;rw[<-N2.out] at x3;go_simp;try with_reducible rfl
      try simp only[zA]
      refine tk 13 (.pointer (some ⟨g,0,none⟩)) (some 65) hH ?_
      try simp only[zA]
      refine tk 14 (.pointer (some ⟨g,0,none⟩)) (some 66) hH ?_
      try simp only[zA]
      refine tk 15 (.pointer (some ⟨g,0,none⟩)) (some 67) hH ?_
      try simp only[zA]
      refine Qah 16 (.int .i64 b.width) (some 68) rfl rfl (by kernel_rfl) (Or.inl ⟨by rfl,?ype16⟩) hH ?rpe16
      case ype16=>intro w' hS';obtain⟨s0,s1⟩:=hS';obtain⟨hg,x0,x1,x2,x3⟩:=BH.out _ s1;rw[<-N0.out] at x1;rw[<-N1.out] at x2;rw[<-N2.out] at x3;go_simp;try with_reducible rfl
      try simp only[zA]
      refine tk 17 (.pointer (some ⟨g,0,none⟩)) (some 69) hH ?_
      try simp only[zA]
      refine tk 18 (.pointer (some ⟨g,0,none⟩)) (some 70) hH ?_
      try simp only[zA]
      refine tk 19 (.pointer (some ⟨g,2,none⟩)) (some 71) hH ?_
      try simp only[zA]
      refine Qah 20 (.slice A1 n1 c1) (some 72) rfl rfl (by kernel_rfl) (Or.inl ⟨by rfl,?ype20⟩) hH ?rpe20
      case ype20=>intro w' hS';obtain⟨s0,s1⟩:=hS';obtain⟨hg,x0,x1,x2,x3⟩:=BH.out _ s1;rw[<-N0.out] at x1;rw[<-N1.out] at x2;rw[<-N2.out] at x3;go_simp;try with_reducible rfl
      try simp only[zA]
      refine tk 22 (.pointer (some ⟨g,0,none⟩)) (some 74) hH ?_
      try simp only[zA]
      refine tk 23 (.pointer (some ⟨g,0,none⟩)) (some 75) hH ?_
      try simp only[zA]
      refine tk 24 (.pointer (some ⟨g,3,none⟩)) (some 76) hH ?_
      try simp only[zA]
      refine Qah 25 (.slice A2 n2 c2) (some 77) rfl rfl (by kernel_rfl) (Or.inl ⟨by rfl,?ype24⟩) hH ?rpe24
      case ype24=>intro w' hS';obtain⟨s0,s1⟩:=hS';obtain⟨hg,x0,x1,x2,x3⟩:=BH.out _ s1;rw[<-N0.out] at x1;rw[<-N1.out] at x2;rw[<-N2.out] at x3;go_simp;try with_reducible rfl
      try simp only[zA]
      refine twoH 12 30 (oi:=_) (oj:=_) (some 64) (some 4) (by kernel_rfl) rfl rfl rfl rfl rfl rfl (fun K' hK=>?_) (fun K' hK=>?_)
      · skip
        refine⟨?_⟩
        rw[if_pos (by rfl)]
        go_simp
        refine(C12.out _ hH.2).mono ?_
        rintro e wA ⟨v,rfl,hown,h1⟩
        have hr:RowT w.heap.size wA v LH:=RowT.of (Qaj hown hH.2.size) (by rw[HLH.out,Qa8,List.length_map,N0.out]) (by rw[HLH.out];rfl)
        obtain⟨Al,cl,hvf,_⟩:=Qae hr
        subst hvf
        have RL:=hU hr
        clear hr hown
        refine hK.out _ _ ⟨_,rfl⟩ ⟨hH.1.ext h1,hH.2.next h1⟩ (fun hH2=>?_)
        clear hK K' hH h1
        have hH:=hH2
        clear hH2
        try simp only[zB]
        refine twoH 21 30 (oi:=_) (oj:=_) (some 73) (some 4) (by kernel_rfl) rfl rfl rfl rfl rfl rfl (fun K' hK=>?_) (fun K' hK=>?_)
        · skip
          refine⟨?_⟩
          rw[if_pos (by rfl)]
          go_simp
          refine(C21.out _ hH.2).mono ?_
          rintro e wB ⟨v,rfl,hown,h1⟩
          replace RL:=hU (RowT.ext RL.out h1)
          have hr:RowT w.heap.size wB v TH:=RowT.of (Qaj hown hH.2.size) (by rw[HTH.out,Qbp,List.length_map,N1.out]) (by rw[HTH.out];rfl)
          obtain⟨At,ct,hvf,_⟩:=Qae hr
          subst hvf
          have RT:=hU hr
          clear hr hown
          refine hK.out _ _ ⟨_,rfl⟩ ⟨hH.1.ext h1,hH.2.next h1⟩ (fun hH2=>?_)
          clear hK K' hH h1
          have hH:=hH2
          clear hH2
          try simp only[zB]
          refine twoH 26 30 (oi:=_) (oj:=_) (some 78) (some 4) (by kernel_rfl) rfl rfl rfl rfl rfl rfl (fun K' hK=>?_) (fun K' hK=>?_)
          · skip
            refine⟨?_⟩
            rw[if_pos (by rfl)]
            go_simp
            refine(C26.out _ hH.2 Al cl At ct RL.out RT.out).mono ?_
            rintro e wC ⟨h1,cs,rfl,hl9,ho9,hcs⟩
            replace RL:=hU (RowT.ext RL.out h1)
            replace RT:=hU (RowT.ext RT.out h1)
            have HCS:=hU hcs;have HL9:=hU hl9;have HO9:=hU ho9
            clear hl9 ho9 hcs
            refine hK.out _ _ ⟨_,rfl⟩ ⟨hH.1.ext h1,hH.2.next h1⟩ (fun hH2=>?_)
            clear hK K' hH h1
            have hH:=hH2
            clear hH2
            try simp only[zB]
            refine Qah 27 (.tuple #[.agg cs.toArray,.bool (Qcm b.width LH TH b.heads)]) (some 51) rfl rfl (by kernel_rfl) (Or.inl ⟨by rfl,?ypexaaa1⟩) hH ?rpexaaa1
            case ypexaaa1=>intro w' hS';obtain⟨s0,s1⟩:=hS';obtain⟨hg,x0,x1,x2,x3⟩:=BH.out _ s1;rw[<-N0.out] at x1;rw[<-N1.out] at x2;rw[<-N2.out] at x3;go_simp;try with_reducible rfl
            try simp only[zA]
            refine Qah 28 (.agg cs.toArray) (some 79) rfl rfl (by kernel_rfl) (Or.inl ⟨by rfl,?ypexaaa2⟩) hH ?rpexaaa2
            case ypexaaa2=>intro w' hS';obtain⟨s0,s1⟩:=hS';obtain⟨hg,x0,x1,x2,x3⟩:=BH.out _ s1;rw[<-N0.out] at x1;rw[<-N1.out] at x2;rw[<-N2.out] at x3;go_simp;try with_reducible rfl
            try simp only[zA]
            refine tk 29 (.bool (Qcm b.width LH TH b.heads)) (some 80) hH ?_
            try simp only[zA]
            refine oneH 30 (oi:=_) (some 4) (by kernel_rfl) rfl rfl rfl (fun K' hK=>?_)
            have h1:=Ext.new (Below.refl wC.heap.size wC) (.cells #[.int .i64 0,.slice none 0 0,.int .i64 0,.slice none 0 0,.int .i64 0,.int .i64 0,.string ⟨#[]⟩,.int .i64 0,.string ⟨#[]⟩] 35)
            obtain⟨q,hq⟩:∃ q,q=wC.heap.size:=⟨_,rfl⟩
            have bq:=Blk.new wC 35 #[.int .i64 0,.slice none 0 0,.int .i64 0,.slice none 0 0,.int .i64 0,.int .i64 0,.string ⟨#[]⟩,.int .i64 0,.string ⟨#[]⟩]
            rw[<-hq] at bq
            have QB:=hU (show w.heap.size<=q/\p≠q by have:=hH.2.size;have:=hH.1.lt;omega)
            obtain⟨wD,hu,h1,bq⟩:∃ u,u=wC.alloc (.cells #[.int .i64 0,.slice none 0 0,.int .i64 0,.slice none 0 0,.int .i64 0,.int .i64 0,.string ⟨#[]⟩,.int .i64 0,.string ⟨#[]⟩] 35)/\Ext wC u/\Blk u q 35 #[.int .i64 0,.slice none 0 0,.int .i64 0,.slice none 0 0,.int .i64 0,.int .i64 0,.string ⟨#[]⟩,.int .i64 0,.string ⟨#[]⟩]:=⟨_,rfl,h1,bq⟩
            have HU:=hU hu;have HQQ:=hU hq
            clear hu hq
            refine⟨?_⟩
            rw[if_pos (by rfl)]
            go_simp
            rw[<-HU.out,<-HQQ.out]
            replace RL:=hU (RowT.ext RL.out h1)
            replace RT:=hU (RowT.ext RT.out h1)
            replace HCS:=hU (HCS.out.ext h1)
            have BQ:=hU bq
            clear bq
            refine hK.out _ _ ⟨_,rfl⟩ ⟨hH.1.ext h1,hH.2.next h1⟩ (fun hH2=>?_)
            clear hK K' hH h1 HU HQQ
            have hH:=hH2
            clear hH2
            try simp only[zB]
            have Tq:=hU (BQ.out.there 0 cs.length (by rw[HL9.out];simp))
            obtain⟨w8,hw8,kz,hx,kq,ha⟩:∃ w8,w8=wD.setCells q 0 cs/\Blk w8 p 35 #[.int .i64 0,.slice none 0 0,.int .i64 0,.slice none 0 0,.int .i64 0,.int .i64 0,.string ⟨#[]⟩,.int .i64 0,.string ⟨#[]⟩]/\Ext w w8/\Blk w8 q 35 cs.toArray/\Qfr b LH TH w cs w8:=
             ⟨_,rfl,hH.1.farCells QB.out.2 _ _ _,Qaa (W:=w) (g:=q) QB.out.1 cs 0 _ hH.2,BQ.out.put 0 cs cs.toArray (by rw[HL9.out];simp) (by rw[List.take_zero,List.nil_append,List.drop_eq_nil_of_le (by rw[HL9.out];simp),List.append_nil]),HCS.out.set BQ.out⟩
            have HW8:=hU hw8
            refine oneH 31 (oi:=_) none (by kernel_rfl) rfl rfl rfl (fun K' hK=>?_)
            refine⟨?_⟩
            rw[if_pos (by rfl)]
            refine Qao 35 _ _ rfl rfl q 0 cs rfl rfl Tq.out (by rw[HL9.out];kernel_rfl) HO9.out ?_
            rw[<-HW8.out]
            refine hK.out _ _ ⟨undef,rfl⟩ ⟨kz,hx⟩ (fun hH2=>?_)
            clear hK K' hH
            have hH:=hH2
            clear hH2
            try simp only[zB]
            refine tk 32 (.bool (Qcm b.width LH TH b.heads)) (some 5) hH ?_
            try simp only[zA]
            refine wpAnyH_done (by kernel_rfl) ?_ _
            try go_wp2_with fail
            go_meet
            case rel=>exact⟨q,cs,rfl,rfl,HL9.out,HO9.out,kq,QB.out.2,QB.out.1,kz,hx,ha⟩
          · skip
            have h1:=Ext.new (Below.refl wB.heap.size wB) (.cells #[.int .i64 0,.slice none 0 0,.int .i64 0,.slice none 0 0,.int .i64 0,.int .i64 0,.string ⟨#[]⟩,.int .i64 0,.string ⟨#[]⟩] 35)
            obtain⟨q,hq⟩:∃ q,q=wB.heap.size:=⟨_,rfl⟩
            have bq:=Blk.new wB 35 #[.int .i64 0,.slice none 0 0,.int .i64 0,.slice none 0 0,.int .i64 0,.int .i64 0,.string ⟨#[]⟩,.int .i64 0,.string ⟨#[]⟩]
            rw[<-hq] at bq
            have QB:=hU (show w.heap.size<=q/\p≠q by have:=hH.2.size;have:=hH.1.lt;omega)
            obtain⟨wQ,hu,h1,bq⟩:∃ u,u=wB.alloc (.cells #[.int .i64 0,.slice none 0 0,.int .i64 0,.slice none 0 0,.int .i64 0,.int .i64 0,.string ⟨#[]⟩,.int .i64 0,.string ⟨#[]⟩] 35)/\Ext wB u/\Blk u q 35 #[.int .i64 0,.slice none 0 0,.int .i64 0,.slice none 0 0,.int .i64 0,.int .i64 0,.string ⟨#[]⟩,.int .i64 0,.string ⟨#[]⟩]:=⟨_,rfl,h1,bq⟩
            have HU:=hU hu;have HQQ:=hU hq
            clear hu hq
            refine⟨?_⟩
            rw[if_pos (by rfl)]
            go_simp
            rw[<-HU.out,<-HQQ.out]
            replace RL:=hU (RowT.ext RL.out h1)
            replace RT:=hU (RowT.ext RT.out h1)
            have BQ:=hU bq
            clear bq
            refine hK.out _ _ ⟨_,rfl⟩ ⟨hH.1.ext h1,hH.2.next h1⟩ (fun hH2=>?_)
            clear hK K' hH h1 HU HQQ
            have hH:=hH2
            clear hH2
            try simp only[zB]
            refine oneH 26 (oi:=_) (some 78) (by kernel_rfl) rfl rfl rfl (fun K' hK=>?_)
            refine⟨?_⟩
            rw[if_pos (by rfl)]
            go_simp
            refine(C26.out _ hH.2 Al cl At ct RL.out RT.out).mono ?_
            rintro e wC ⟨h1,cs,rfl,hl9,ho9,hcs⟩
            replace RL:=hU (RowT.ext RL.out h1)
            replace RT:=hU (RowT.ext RT.out h1)
            replace BQ:=hU (BQ.out.ext h1)
            have HCS:=hU hcs;have HL9:=hU hl9;have HO9:=hU ho9
            clear hl9 ho9 hcs
            refine hK.out _ _ ⟨_,rfl⟩ ⟨hH.1.ext h1,hH.2.next h1⟩ (fun hH2=>?_)
            clear hK K' hH h1
            have hH:=hH2
            clear hH2
            try simp only[zB]
            refine Qah 27 (.tuple #[.agg cs.toArray,.bool (Qcm b.width LH TH b.heads)]) (some 51) rfl rfl (by kernel_rfl) (Or.inl ⟨by rfl,?ypexaabc1⟩) hH ?rpexaabc1
            case ypexaabc1=>intro w' hS';obtain⟨s0,s1⟩:=hS';obtain⟨hg,x0,x1,x2,x3⟩:=BH.out _ s1;rw[<-N0.out] at x1;rw[<-N1.out] at x2;rw[<-N2.out] at x3;go_simp;try with_reducible rfl
            try simp only[zA]
            refine Qah 28 (.agg cs.toArray) (some 79) rfl rfl (by kernel_rfl) (Or.inl ⟨by rfl,?ypexaabc2⟩) hH ?rpexaabc2
            case ypexaabc2=>intro w' hS';obtain⟨s0,s1⟩:=hS';obtain⟨hg,x0,x1,x2,x3⟩:=BH.out _ s1;rw[<-N0.out] at x1;rw[<-N1.out] at x2;rw[<-N2.out] at x3;go_simp;try with_reducible rfl
            try simp only[zA]
            refine tk 29 (.bool (Qcm b.width LH TH b.heads)) (some 80) hH ?_
            try simp only[zA]
            have Tq:=hU (BQ.out.there 0 cs.length (by rw[HL9.out];simp))
            obtain⟨w8,hw8,kz,hx,kq,ha⟩:∃ w8,w8=wC.setCells q 0 cs/\Blk w8 p 35 #[.int .i64 0,.slice none 0 0,.int .i64 0,.slice none 0 0,.int .i64 0,.int .i64 0,.string ⟨#[]⟩,.int .i64 0,.string ⟨#[]⟩]/\Ext w w8/\Blk w8 q 35 cs.toArray/\Qfr b LH TH w cs w8:=
             ⟨_,rfl,hH.1.farCells QB.out.2 _ _ _,Qaa (W:=w) (g:=q) QB.out.1 cs 0 _ hH.2,BQ.out.put 0 cs cs.toArray (by rw[HL9.out];simp) (by rw[List.take_zero,List.nil_append,List.drop_eq_nil_of_le (by rw[HL9.out];simp),List.append_nil]),HCS.out.set BQ.out⟩
            have HW8:=hU hw8
            refine oneH 31 (oi:=_) none (by kernel_rfl) rfl rfl rfl (fun K' hK=>?_)
            refine⟨?_⟩
            rw[if_pos (by rfl)]
            refine Qao 35 _ _ rfl rfl q 0 cs rfl rfl Tq.out (by rw[HL9.out];kernel_rfl) HO9.out ?_
            rw[<-HW8.out]
            refine hK.out _ _ ⟨undef,rfl⟩ ⟨kz,hx⟩ (fun hH2=>?_)
            clear hK K' hH
            have hH:=hH2
            clear hH2
            try simp only[zB]
            refine tk 32 (.bool (Qcm b.width LH TH b.heads)) (some 5) hH ?_
            try simp only[zA]
            refine wpAnyH_done (by kernel_rfl) ?_ _
            try go_wp2_with fail
            go_meet
            case rel=>exact⟨q,cs,rfl,rfl,HL9.out,HO9.out,kq,QB.out.2,QB.out.1,kz,hx,ha⟩
        · skip
          have h1:=Ext.new (Below.refl wA.heap.size wA) (.cells #[.int .i64 0,.slice none 0 0,.int .i64 0,.slice none 0 0,.int .i64 0,.int .i64 0,.string ⟨#[]⟩,.int .i64 0,.string ⟨#[]⟩] 35)
          obtain⟨q,hq⟩:∃ q,q=wA.heap.size:=⟨_,rfl⟩
          have bq:=Blk.new wA 35 #[.int .i64 0,.slice none 0 0,.int .i64 0,.slice none 0 0,.int .i64 0,.int .i64 0,.string ⟨#[]⟩,.int .i64 0,.string ⟨#[]⟩]
          rw[<-hq] at bq
          have QB:=hU (show w.heap.size<=q/\p≠q by have:=hH.2.size;have:=hH.1.lt;omega)
          obtain⟨wQ,hu,h1,bq⟩:∃ u,u=wA.alloc (.cells #[.int .i64 0,.slice none 0 0,.int .i64 0,.slice none 0 0,.int .i64 0,.int .i64 0,.string ⟨#[]⟩,.int .i64 0,.string ⟨#[]⟩] 35)/\Ext wA u/\Blk u q 35 #[.int .i64 0,.slice none 0 0,.int .i64 0,.slice none 0 0,.int .i64 0,.int .i64 0,.string ⟨#[]⟩,.int .i64 0,.string ⟨#[]⟩]:=⟨_,rfl,h1,bq⟩
          have HU:=hU hu;have HQQ:=hU hq
          clear hu hq
          refine⟨?_⟩
          rw[if_pos (by rfl)]
          go_simp
          rw[<-HU.out,<-HQQ.out]
          replace RL:=hU (RowT.ext RL.out h1)
          have BQ:=hU bq
          clear bq
          refine hK.out _ _ ⟨_,rfl⟩ ⟨hH.1.ext h1,hH.2.next h1⟩ (fun hH2=>?_)
          clear hK K' hH h1 HU HQQ
          have hH:=hH2
          clear hH2
          try simp only[zB]
          refine oneH 21 (oi:=_) (some 73) (by kernel_rfl) rfl rfl rfl (fun K' hK=>?_)
          refine⟨?_⟩
          rw[if_pos (by rfl)]
          go_simp
          refine(C21.out _ hH.2).mono ?_
          rintro e wB ⟨v,rfl,hown,h1⟩
          replace RL:=hU (RowT.ext RL.out h1)
          replace BQ:=hU (BQ.out.ext h1)
          have hr:RowT w.heap.size wB v TH:=RowT.of (Qaj hown hH.2.size) (by rw[HTH.out,Qbp,List.length_map,N1.out]) (by rw[HTH.out];rfl)
          obtain⟨At,ct,hvf,_⟩:=Qae hr
          subst hvf
          have RT:=hU hr
          clear hr hown
          refine hK.out _ _ ⟨_,rfl⟩ ⟨hH.1.ext h1,hH.2.next h1⟩ (fun hH2=>?_)
          clear hK K' hH h1
          have hH:=hH2
          clear hH2
          try simp only[zB]
          refine oneH 26 (oi:=_) (some 78) (by kernel_rfl) rfl rfl rfl (fun K' hK=>?_)
          refine⟨?_⟩
          rw[if_pos (by rfl)]
          go_simp
          refine(C26.out _ hH.2 Al cl At ct RL.out RT.out).mono ?_
          rintro e wC ⟨h1,cs,rfl,hl9,ho9,hcs⟩
          replace RL:=hU (RowT.ext RL.out h1)
          replace RT:=hU (RowT.ext RT.out h1)
          replace BQ:=hU (BQ.out.ext h1)
          have HCS:=hU hcs;have HL9:=hU hl9;have HO9:=hU ho9
          clear hl9 ho9 hcs
          refine hK.out _ _ ⟨_,rfl⟩ ⟨hH.1.ext h1,hH.2.next h1⟩ (fun hH2=>?_)
          clear hK K' hH h1
          have hH:=hH2
          clear hH2
          try simp only[zB]
          refine Qah 27 (.tuple #[.agg cs.toArray,.bool (Qcm b.width LH TH b.heads)]) (some 51) rfl rfl (by kernel_rfl) (Or.inl ⟨by rfl,?ypexabcc1⟩) hH ?rpexabcc1
          case ypexabcc1=>intro w' hS';obtain⟨s0,s1⟩:=hS';obtain⟨hg,x0,x1,x2,x3⟩:=BH.out _ s1;rw[<-N0.out] at x1;rw[<-N1.out] at x2;rw[<-N2.out] at x3;go_simp;try with_reducible rfl
          try simp only[zA]
          refine Qah 28 (.agg cs.toArray) (some 79) rfl rfl (by kernel_rfl) (Or.inl ⟨by rfl,?ypexabcc2⟩) hH ?rpexabcc2
          case ypexabcc2=>intro w' hS';obtain⟨s0,s1⟩:=hS';obtain⟨hg,x0,x1,x2,x3⟩:=BH.out _ s1;rw[<-N0.out] at x1;rw[<-N1.out] at x2;rw[<-N2.out] at x3;go_simp;try with_reducible rfl
          try simp only[zA]
          refine tk 29 (.bool (Qcm b.width LH TH b.heads)) (some 80) hH ?_
          try simp only[zA]
          have Tq:=hU (BQ.out.there 0 cs.length (by rw[HL9.out];simp))
          obtain⟨w8,hw8,kz,hx,kq,ha⟩:∃ w8,w8=wC.setCells q 0 cs/\Blk w8 p 35 #[.int .i64 0,.slice none 0 0,.int .i64 0,.slice none 0 0,.int .i64 0,.int .i64 0,.string ⟨#[]⟩,.int .i64 0,.string ⟨#[]⟩]/\Ext w w8/\Blk w8 q 35 cs.toArray/\Qfr b LH TH w cs w8:=
           ⟨_,rfl,hH.1.farCells QB.out.2 _ _ _,Qaa (W:=w) (g:=q) QB.out.1 cs 0 _ hH.2,BQ.out.put 0 cs cs.toArray (by rw[HL9.out];simp) (by rw[List.take_zero,List.nil_append,List.drop_eq_nil_of_le (by rw[HL9.out];simp),List.append_nil]),HCS.out.set BQ.out⟩
          have HW8:=hU hw8
          refine oneH 31 (oi:=_) none (by kernel_rfl) rfl rfl rfl (fun K' hK=>?_)
          refine⟨?_⟩
          rw[if_pos (by rfl)]
          refine Qao 35 _ _ rfl rfl q 0 cs rfl rfl Tq.out (by rw[HL9.out];kernel_rfl) HO9.out ?_
          rw[<-HW8.out]
          refine hK.out _ _ ⟨undef,rfl⟩ ⟨kz,hx⟩ (fun hH2=>?_)
          clear hK K' hH
          have hH:=hH2
          clear hH2
          try simp only[zB]
          refine tk 32 (.bool (Qcm b.width LH TH b.heads)) (some 5) hH ?_
          try simp only[zA]
          refine wpAnyH_done (by kernel_rfl) ?_ _
          try go_wp2_with fail
          go_meet
          case rel=>exact⟨q,cs,rfl,rfl,HL9.out,HO9.out,kq,QB.out.2,QB.out.1,kz,hx,ha⟩
      · skip
        have h1:=Ext.new (Below.refl w0.heap.size w0) (.cells #[.int .i64 0,.slice none 0 0,.int .i64 0,.slice none 0 0,.int .i64 0,.int .i64 0,.string ⟨#[]⟩,.int .i64 0,.string ⟨#[]⟩] 35)
        obtain⟨q,hq⟩:∃ q,q=w0.heap.size:=⟨_,rfl⟩
        have bq:=Blk.new w0 35 #[.int .i64 0,.slice none 0 0,.int .i64 0,.slice none 0 0,.int .i64 0,.int .i64 0,.string ⟨#[]⟩,.int .i64 0,.string ⟨#[]⟩]
        rw[<-hq] at bq
        have QB:=hU (show w.heap.size<=q/\p≠q by have:=hH.2.size;have:=hH.1.lt;omega)
        obtain⟨wQ,hu,h1,bq⟩:∃ u,u=w0.alloc (.cells #[.int .i64 0,.slice none 0 0,.int .i64 0,.slice none 0 0,.int .i64 0,.int .i64 0,.string ⟨#[]⟩,.int .i64 0,.string ⟨#[]⟩] 35)/\Ext w0 u/\Blk u q 35 #[.int .i64 0,.slice none 0 0,.int .i64 0,.slice none 0 0,.int .i64 0,.int .i64 0,.string ⟨#[]⟩,.int .i64 0,.string ⟨#[]⟩]:=⟨_,rfl,h1,bq⟩
        have HU:=hU hu;have HQQ:=hU hq
        clear hu hq
        refine⟨?_⟩
        rw[if_pos (by rfl)]
        go_simp
        rw[<-HU.out,<-HQQ.out]
        have BQ:=hU bq
        clear bq
        refine hK.out _ _ ⟨_,rfl⟩ ⟨hH.1.ext h1,hH.2.next h1⟩ (fun hH2=>?_)
        clear hK K' hH h1 HU HQQ
        have hH:=hH2
        clear hH2
        try simp only[zB]
        refine oneH 12 (oi:=_) (some 64) (by kernel_rfl) rfl rfl rfl (fun K' hK=>?_)
        refine⟨?_⟩
        rw[if_pos (by rfl)]
        go_simp
        refine(C12.out _ hH.2).mono ?_
        rintro e wA ⟨v,rfl,hown,h1⟩
        replace BQ:=hU (BQ.out.ext h1)
        have hr:RowT w.heap.size wA v LH:=RowT.of (Qaj hown hH.2.size) (by rw[HLH.out,Qa8,List.length_map,N0.out]) (by rw[HLH.out];rfl)
        obtain⟨Al,cl,hvf,_⟩:=Qae hr
        subst hvf
        have RL:=hU hr
        clear hr hown
        refine hK.out _ _ ⟨_,rfl⟩ ⟨hH.1.ext h1,hH.2.next h1⟩ (fun hH2=>?_)
        clear hK K' hH h1
        have hH:=hH2
        clear hH2
        try simp only[zB]
        refine oneH 21 (oi:=_) (some 73) (by kernel_rfl) rfl rfl rfl (fun K' hK=>?_)
        refine⟨?_⟩
        rw[if_pos (by rfl)]
        go_simp
        refine(C21.out _ hH.2).mono ?_
        rintro e wB ⟨v,rfl,hown,h1⟩
        replace RL:=hU (RowT.ext RL.out h1)
        replace BQ:=hU (BQ.out.ext h1)
        have hr:RowT w.heap.size wB v TH:=RowT.of (Qaj hown hH.2.size) (by rw[HTH.out,Qbp,List.length_map,N1.out]) (by rw[HTH.out];rfl)
        obtain⟨At,ct,hvf,_⟩:=Qae hr
        subst hvf
        have RT:=hU hr
        clear hr hown
        refine hK.out _ _ ⟨_,rfl⟩ ⟨hH.1.ext h1,hH.2.next h1⟩ (fun hH2=>?_)
        clear hK K' hH h1
        have hH:=hH2
        clear hH2
        try simp only[zB]
        refine oneH 26 (oi:=_) (some 78) (by kernel_rfl) rfl rfl rfl (fun K' hK=>?_)
        refine⟨?_⟩
        rw[if_pos (by rfl)]
        go_simp
        refine(C26.out _ hH.2 Al cl At ct RL.out RT.out).mono ?_
        rintro e wC ⟨h1,cs,rfl,hl9,ho9,hcs⟩
        replace RL:=hU (RowT.ext RL.out h1)
        replace RT:=hU (RowT.ext RT.out h1)
        replace BQ:=hU (BQ.out.ext h1)
        have HCS:=hU hcs;have HL9:=hU hl9;have HO9:=hU ho9
        clear hl9 ho9 hcs
        refine hK.out _ _ ⟨_,rfl⟩ ⟨hH.1.ext h1,hH.2.next h1⟩ (fun hH2=>?_)
        clear hK K' hH h1
        have hH:=hH2
        clear hH2
        try simp only[zB]
        refine Qah 27 (.tuple #[.agg cs.toArray,.bool (Qcm b.width LH TH b.heads)]) (some 51) rfl rfl (by kernel_rfl) (Or.inl ⟨by rfl,?ypexbccc1⟩) hH ?rpexbccc1
        case ypexbccc1=>intro w' hS';obtain⟨s0,s1⟩:=hS';obtain⟨hg,x0,x1,x2,x3⟩:=BH.out _ s1;rw[<-N0.out] at x1;rw[<-N1.out] at x2;rw[<-N2.out] at x3;go_simp;try with_reducible rfl
        try simp only[zA]
        refine Qah 28 (.agg cs.toArray) (some 79) rfl rfl (by kernel_rfl) (Or.inl ⟨by rfl,?ypexbccc2⟩) hH ?rpexbccc2
        case ypexbccc2=>intro w' hS';obtain⟨s0,s1⟩:=hS';obtain⟨hg,x0,x1,x2,x3⟩:=BH.out _ s1;rw[<-N0.out] at x1;rw[<-N1.out] at x2;rw[<-N2.out] at x3;go_simp;try with_reducible rfl
        try simp only[zA]
        refine tk 29 (.bool (Qcm b.width LH TH b.heads)) (some 80) hH ?_
        try simp only[zA]
        have Tq:=hU (BQ.out.there 0 cs.length (by rw[HL9.out];simp))
        obtain⟨w8,hw8,kz,hx,kq,ha⟩:∃ w8,w8=wC.setCells q 0 cs/\Blk w8 p 35 #[.int .i64 0,.slice none 0 0,.int .i64 0,.slice none 0 0,.int .i64 0,.int .i64 0,.string ⟨#[]⟩,.int .i64 0,.string ⟨#[]⟩]/\Ext w w8/\Blk w8 q 35 cs.toArray/\Qfr b LH TH w cs w8:=
         ⟨_,rfl,hH.1.farCells QB.out.2 _ _ _,Qaa (W:=w) (g:=q) QB.out.1 cs 0 _ hH.2,BQ.out.put 0 cs cs.toArray (by rw[HL9.out];simp) (by rw[List.take_zero,List.nil_append,List.drop_eq_nil_of_le (by rw[HL9.out];simp),List.append_nil]),HCS.out.set BQ.out⟩
        have HW8:=hU hw8
        refine oneH 31 (oi:=_) none (by kernel_rfl) rfl rfl rfl (fun K' hK=>?_)
        refine⟨?_⟩
        rw[if_pos (by rfl)]
        refine Qao 35 _ _ rfl rfl q 0 cs rfl rfl Tq.out (by rw[HL9.out];kernel_rfl) HO9.out ?_
        rw[<-HW8.out]
        refine hK.out _ _ ⟨undef,rfl⟩ ⟨kz,hx⟩ (fun hH2=>?_)
        clear hK K' hH
        have hH:=hH2
        clear hH2
        try simp only[zB]
        refine tk 32 (.bool (Qcm b.width LH TH b.heads)) (some 5) hH ?_
        try simp only[zA]
        refine wpAnyH_done (by kernel_rfl) ?_ _
        try go_wp2_with fail
        go_meet
        case rel=>exact⟨q,cs,rfl,rfl,HL9.out,HO9.out,kq,QB.out.2,QB.out.1,kz,hx,ha⟩
     case rest=>
      obtain⟨q,cs,rfl,rfl,hl9,ho9,kq6,hq2,hq1,kz6,hx6,hans⟩:=hcut
      obtain⟨w6,rfl⟩:=Qin kz6
      have HL9:=hU hl9;have HO9:=hU ho9;have HE:=hU hx6;have KZ:=hU kz6;have KQ:=hU kq6;have HA:=hU hans
      clear hl9 ho9 kq6 kz6 hx6 hans
      cases hb:Qcm b.width LH TH b.heads
      · have HBB:=hU hb
        clear hb
        have E:=hU (show Qbu b=false from by rw[F.out,HBB.out];simp)
        have TZ:=hU (KZ.out.there 0 9 (by simp))
        obtain⟨w4,hw4,kz,hx⟩:∃ w4,w4=w6.setCells p 0 [.int .i64 0,.slice none 0 0,.int .i64 0,.slice none 0 0,.int .i64 0,.int .i64 0,.string ⟨#[]⟩,.int .i64 0,.string ⟨#[]⟩]/\Blk w4 p 35 #[.int .i64 0,.slice none 0 0,.int .i64 0,.slice none 0 0,.int .i64 0,.int .i64 0,.string ⟨#[]⟩,.int .i64 0,.string ⟨#[]⟩]/\Ext w w4:=
         ⟨_,rfl,KZ.out.put 0 [.int .i64 0,.slice none 0 0,.int .i64 0,.slice none 0 0,.int .i64 0,.int .i64 0,.string ⟨#[]⟩,.int .i64 0,.string ⟨#[]⟩] #[.int .i64 0,.slice none 0 0,.int .i64 0,.slice none 0 0,.int .i64 0,.int .i64 0,.string ⟨#[]⟩,.int .i64 0,.string ⟨#[]⟩] (by simp) rfl,Qaa (W:=w) (g:=p) (by have:=Hp.out;omega) [.int .i64 0,.slice none 0 0,.int .i64 0,.slice none 0 0,.int .i64 0,.int .i64 0,.string ⟨#[]⟩,.int .i64 0,.string ⟨#[]⟩] 0 _ HE.out⟩
        have HW:=hU hw4;have KZ4:=hU kz;have HX:=hU hx
        clear hw4 kz hx
        go_wp2_with (first|(refine Qac rfl 35 _ _ rfl rfl p 0 [.int .i64 0,.slice none 0 0,.int .i64 0,.slice none 0 0,.int .i64 0,.int .i64 0,.string ⟨#[]⟩,.int .i64 0,.string ⟨#[]⟩] rfl rfl TZ.out (by kernel_rfl) (by rfl) ?_;rw[<-HW.out]))
        exact Qat rfl rfl KZ4.out Tryz.underlying35 rfl (by kernel_rfl) rfl ⟨HX.out,Or.inl ⟨E.out,rfl⟩⟩
      have SB:=hU hb
      obtain⟨v1,v2,hcs,ra,rb,hap⟩:=HA.out hb
      have RA:=hU ra;have RB:=hU rb;have AP:=hU hap;have HCS:=hU hcs
      clear hb ra rb hap hcs HA
      rw[SB.out] at F
      obtain⟨hg,x0,x1,x2,x3⟩:=BH.out _ HE.out
      rw[<-N0.out] at x1
      rw[<-N1.out] at x2
      rw[<-N2.out] at x3
      have Z22:=Z2.out
      have lok:=(Qfk (Qgc (by rw[<-N2.out];exact Z22)) ((Qci OKH.out).2.2 _ (by rw[<-N2.out];omega))).1
      have lin:=Qg5 lok
      obtain⟨LHd,hLHd⟩:∃ LHd,LHd=Qaw b.heads:=⟨_,rfl⟩
      have HLHd:=hU hLHd
      have LS:=hU (show 0<=LHd.size/\LHd.size<=512 by rw[hLHd];omega)
      have LST:=hU (fun(W:World) (hW:Ext w W) (hc:W.cell? ⟨g,3,none⟩=some (.slice A2 b.heads.length c2)) (hgW:g<W.heap.size)=>Qkk g A2 c2 b.heads W hc hgW (S2.out.ext hW).reads (by rw[<-N2.out];exact Z2.out) (by have:=(Qci OKH.out).2.1;omega))
      rw[<-N2.out,<-hLHd] at LST
      have LF:=hU (fun(W:World) (hW:Ext w W) (t:ByteArray) (ix:Int)=>Qpl A0 c0 b.log.entries t ix W (S0.out.ext hW).reads (by have:=Qgb P2.out;omega))
      rw[<-N0.out] at LF
      have n1b:n1<=512:=by have:=Qe0 P3.out;have:=N1.out;omega
      clear lok lin hLHd Z22
      go_wp2_with fail
      clear hg x0 x1 x2 x3
      go_loopw [89] (fun i wr=>∃ k:Nat,k<=n1/\i=.int .i64 (k:Int)/\Qed (Qh6 b) k=true/\Blk wr q 35 cs.toArray/\RowT w.heap.size wr v1 (Qa5 b.width LH TH b.heads b.heads.length).leaves.peaks/\RowT w.heap.size wr v2 (Qa5 b.width LH TH b.heads b.heads.length).taken.peaks/\Blk wr p 35 #[.int .i64 0,.slice none 0 0,.int .i64 0,.slice none 0 0,.int .i64 0,.int .i64 0,.string ⟨#[]⟩,.int .i64 0,.string ⟨#[]⟩]/\Ext w wr) (fun i _=>n1-(intOf i).toNat)
      case atStart=>exact⟨0,Nat.zero_le _,rfl,rfl,KQ.out,RA.out,RB.out,KZ.out,HE.out⟩
      case round=>
       clear KQ RA RB KZ HE
       obtain⟨k,hk,rfl,hi,kq,ra,rb,kz,he⟩:=hrel
       obtain⟨wr,rfl⟩:=Qin kz
       have Hi:=hU hi;have KQ:=hU kq;have RA:=hU ra;have RB:=hU rb;have KZ:=hU kz;have HE:=hU he
       clear hi kq ra rb kz
       by_cases hlt:k<n1
       case neg=>
        obtain rfl:k=n1:=by omega
        have E:=hU (show Qbu b=true by rw[F.out,Hi.out];rfl)
        have RG:=hU (Blk.range KQ.out)
        have TZ:=hU (KZ.out.there 0 cs.length (by rw[HL9.out];simp))
        have hk5:Frm (fun b=>b=p) wr (wr.setCells p 0 cs):=Frm.setCells (X:=fun b=>b=p) (Frm.refl _ wr) (g:=p) (fun _=>rfl) _ _
        obtain⟨w4,hw4,kz,hx,ra,rb⟩:∃ w4,w4=wr.setCells p 0 cs/\Blk w4 p 35 cs.toArray/\Ext w w4/\RowT w.heap.size w4 v1 (Qa5 b.width LH TH b.heads b.heads.length).leaves.peaks/\RowT w.heap.size w4 v2 (Qa5 b.width LH TH b.heads b.heads.length).taken.peaks:=
         ⟨_,rfl,KZ.out.put 0 cs cs.toArray (by rw[HL9.out];simp) (by rw[List.take_zero,List.nil_append,List.drop_eq_nil_of_le (by rw[HL9.out];simp),List.append_nil]),Qaa (W:=w) (g:=p) (by have:=Hp.out;omega) cs 0 _ HE.out,hk5.own RA.out (fun b hb=>RowT.apart RA.out KZ.out (by decide) b hb),hk5.own RB.out (fun b hb=>RowT.apart RB.out KZ.out (by decide) b hb)⟩
        have HW:=hU hw4;have KZ4:=hU kz;have HX:=hU hx;have RA4:=hU ra;have RB4:=hU rb
        clear hw4 kz hx ra rb hk5 he
        go_wp2_with (first|(refine wpList_load_mid rfl 35 _ rfl q 0 rfl cs _ RG.out Tryz.underlying35 rfl (by rw[HL9.out];kernel_rfl) ?_)|(refine Qac rfl 35 _ _ rfl rfl p 0 cs rfl rfl TZ.out (by rw[HL9.out];kernel_rfl) HO9.out ?_;rw[<-HW.out]))
        refine Qat rfl rfl KZ4.out Tryz.underlying35 rfl (by rw[List.size_toArray,HL9.out];kernel_rfl) rfl ⟨HX.out,Or.inr ⟨E.out,v1,v2,?_,?_,?_,AP.out⟩⟩
        · rw[HCS.out,<-HLH.out,<-HTH.out,Qhg (by rw[<-N2.out];exact Z2.out)];rfl
        · rw[<-HLH.out,<-HTH.out,<-Qhg (by rw[<-N2.out];exact Z2.out)];exact RA4.out
        · rw[<-HLH.out,<-HTH.out,<-Qhg (by rw[<-N2.out];exact Z2.out)];exact RB4.out
       obtain⟨bk,off,hA,hb,hc⟩:=Qbb.at_ (S1.out.ext he).reads (k:=k) (by rw[<-N1.out];exact hlt)
       obtain⟨r,hr⟩:∃ r,b.receipts[k]?=some r:=⟨b.receipts[k]'(by rw[<-N1.out];exact hlt),List.getElem?_eq_getElem _⟩
       obtain⟨c0',c1',c2'⟩:=Qly hc hr
       have RAT:=hU (Qxb hr (by rw[<-HLHd.out];exact LS.out.1))
       rw[<-HLHd.out] at RAT
       subst hA
       clear hc hr
       go_upto_region 11 with fail
       have ke:=Blk.new wr 42 #[.string r.reader,.string r.topic,.int .i64 r.index]
       have hx:=Ext.new (Below.refl wr.heap.size wr) (.cells #[.string r.reader,.string r.topic,.int .i64 r.index] 42)
       replace KQ:=hU (KQ.out.ext hx);replace KZ:=hU (KZ.out.ext hx);replace RA:=hU (RowT.ext RA.out hx);replace RB:=hU (RowT.ext RB.out hx);replace HE:=hU (HE.out.next hx)
       obtain⟨q3,hq3⟩:∃ q3,q3=wr.heap.size:=⟨_,rfl⟩
       rw[<-hq3] at ke
       rw[<-hq3]
       clear hq3 hx c0' c1' c2' he
       generalize wr.alloc (.cells #[.string r.reader,.string r.topic,.int .i64 r.index] 42)=w3' at *
       obtain⟨rq,fq⟩:=ke.rules
       obtain⟨hg,x0,x1,x2,x3⟩:=BH.out _ HE.out
       rw[<-N0.out] at x1
       rw[<-N1.out] at x2
       rw[<-N2.out] at x3
       go_still_tail 8,(by kernel_rfl)
       change wpList _ _ _ _ _ w3'.drew
       generalize hd:w3'.drew=w9
       replace KQ:Hid (Blk w9 q 35 cs.toArray):=hU (by rw[<-hd];exact KQ.out)
       replace KZ:Hid (Blk w9 p 35 #[.int .i64 0,.slice none 0 0,.int .i64 0,.slice none 0 0,.int .i64 0,.int .i64 0,.string ⟨#[]⟩,.int .i64 0,.string ⟨#[]⟩]):=hU (by rw[<-hd];exact KZ.out)
       replace RA:Hid (RowT w.heap.size w9 v1 (Qa5 b.width LH TH b.heads b.heads.length).leaves.peaks):=hU (by rw[<-hd];exact RA.out)
       replace RB:Hid (RowT w.heap.size w9 v2 (Qa5 b.width LH TH b.heads b.heads.length).taken.peaks):=hU (by rw[<-hd];exact RB.out)
       replace HE:Hid (Ext w w9):=hU (by rw[<-hd];exact HE.out.drew)
       clear hd rq fq hg x0 x1 x2 x3 ke
       go_wp2_with fail
       refine(LF.out _ HE.out r.topic r.index).mono ?_
       rintro e w10 ⟨rfl,h1⟩
       replace KQ:=hU (KQ.out.ext h1);replace KZ:=hU (KZ.out.ext h1);replace RA:=hU (RowT.ext RA.out h1);replace RB:=hU (RowT.ext RB.out h1);replace HE:=hU (HE.out.next h1)
       clear h1
       obtain⟨ix,hix⟩:∃ ix,ix=idxB (ofTI r.topic r.index) b.log.entries:=⟨_,rfl⟩
       rw[<-hix] at RAT
       rw[<-hix]
       clear hix
       go_wp2_with fail
       obtain⟨hg,x0,x1,x2,x3⟩:=BH.out _ HE.out
       rw[<-N2.out] at x3
       have LC:=hU (LST.out _ HE.out x3 hg)
       clear hg x0 x1 x2 x3
       refine LC.out.mono ?_
       rintro e w11 ⟨rfl,h1⟩
       replace KQ:=hU (KQ.out.ext h1);replace KZ:=hU (KZ.out.ext h1);replace RA:=hU (RowT.ext RA.out h1);replace RB:=hU (RowT.ext RB.out h1);replace HE:=hU (HE.out.next h1)
       clear h1 LC
       have FD:∀ W:World,(Instr.field 33 (.agg #[.int .i64 LHd.number,.int .i64 LHd.size,.string LHd.root,.int .i64 LHd.taken,.string LHd.takenRoot]) 1).run Tryz.prog W=.ok (.int .i64 LHd.size) W:=fun _=>by kernel_rfl
       have e9:IntKind.i64.wrap (LHd.size-1)=LHd.size-1:=IntWalk.i64_in _ (by have:=LS.out;omega)
       go_wp2_with fail
       refine(Qba ix 0 (LHd.size-1) _).mono ?_
       rintro e wy ⟨rfl,rfl⟩
       clear e9 FD
       cases pz:inR ix 0 (LHd.size-1)
       · have E:=hU (show Qbu b=false from by rw[F.out,Qd2 (k:=k) (by rw[RAT.out,pz]) _ hlt];rfl)
         have TZ:=hU (KZ.out.there 0 9 (by simp))
         obtain⟨w4,hw4,kz,hx⟩:∃ w4,w4=w11.setCells p 0 [.int .i64 0,.slice none 0 0,.int .i64 0,.slice none 0 0,.int .i64 0,.int .i64 0,.string ⟨#[]⟩,.int .i64 0,.string ⟨#[]⟩]/\Blk w4 p 35 #[.int .i64 0,.slice none 0 0,.int .i64 0,.slice none 0 0,.int .i64 0,.int .i64 0,.string ⟨#[]⟩,.int .i64 0,.string ⟨#[]⟩]/\Ext w w4:=
          ⟨_,rfl,KZ.out.put 0 [.int .i64 0,.slice none 0 0,.int .i64 0,.slice none 0 0,.int .i64 0,.int .i64 0,.string ⟨#[]⟩,.int .i64 0,.string ⟨#[]⟩] #[.int .i64 0,.slice none 0 0,.int .i64 0,.slice none 0 0,.int .i64 0,.int .i64 0,.string ⟨#[]⟩,.int .i64 0,.string ⟨#[]⟩] (by simp) rfl,Qaa (W:=w) (g:=p) (by have:=Hp.out;omega) [.int .i64 0,.slice none 0 0,.int .i64 0,.slice none 0 0,.int .i64 0,.int .i64 0,.string ⟨#[]⟩,.int .i64 0,.string ⟨#[]⟩] 0 _ HE.out⟩
         have HW:=hU hw4;have KZ4:=hU kz;have HX:=hU hx
         clear hw4 kz hx
         go_wp2_with (first|(refine Qac rfl 35 _ _ rfl rfl p 0 [.int .i64 0,.slice none 0 0,.int .i64 0,.slice none 0 0,.int .i64 0,.int .i64 0,.string ⟨#[]⟩,.int .i64 0,.string ⟨#[]⟩] rfl rfl TZ.out (by kernel_rfl) (by rfl) ?_;rw[<-HW.out]))
         exact Qat rfl rfl KZ4.out Tryz.underlying35 rfl (by kernel_rfl) rfl ⟨HX.out,Or.inl ⟨E.out,rfl⟩⟩
       · have NX:=hU (show Qed (Qh6 b) (k+1)=true from Qe9 Hi.out (by rw[RAT.out,pz]))
         clear pz
         go_wp2_with fail
         go_roundw
         case rel=>exact⟨k+1,by omega,by go_num,NX.out,KQ.out,RA.out,RB.out,KZ.out,HE.out⟩
         case measure=>simp[intOf];omega
end Go.Proofs.YtbnkjgcpjeedfaaGreat
