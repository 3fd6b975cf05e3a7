/-
  HeadRead; ReadHead; ReadHd: No condition.
-/
import Derived.Test.YtbnkjgcpjeedfaaGreatHeadOps
import Derived.Test.YtbnkjgcpjeedfaaGreatWords
import Derived.Test.YtbnkjgcpjeedfaaGreatReadLf
namespace Go.Proofs.YtbnkjgcpjeedfaaGreat
set_option maxHeartbeats 4000000
set_option maxRecDepth 100000
set_option linter.unusedSimpArgs false
open Go.RowKit
set_option linter.unusedVariables false
theorem Qaz.alloc_{g:Nat}{a b:World}(h:Qaz g a b)(o:Obj):Qaz g a (b.alloc o):=
 ⟨h.os,h.tape,h.output,Nat.le_trans h.size (by simp),fun i hi hne=>(Below.heap_alloc b o i (Nat.lt_of_lt_of_le hi h.size)).trans (h.block i hi hne)⟩
theorem Qaz.setNew{g:Nat}{a b:World}(h:Qaz g a b){p:Addr}(hp:a.heap.size<=p.block)(u:Value):Qaz g a (b.setCell p u):=
 ⟨h.os,h.tape,h.output,by simpa [World.setCell] using h.size,fun i hi hne=>(Below.heap_setCell b p u i (by omega)).trans (h.block i hi hne)⟩
theorem Qaz.setCellsNew{g q:Nat}{a:World}(hq:a.heap.size<=q):∀(vs:List Value) (o:Nat) (b:World),Qaz g a b->Qaz g a (b.setCells q o vs)
 | [],_,_,h=>h
 | v :: vs,o,b,h=>Qaz.setCellsNew hq vs (o+1) _ (Qaz.setNew h (p:=⟨q,o,none⟩) hq v)
def rh1 (T:ByteArray) (r:Rd):Rd:=Qb3 T r 2
def rh2 (T:ByteArray) (r:Rd):Rd:=Qb3 T (rh1 T r) 2
def rh3 (T:ByteArray) (r:Rd) (m:Nat):Rd:=Qb3 T (rh2 T r) m
def rh4 (T:ByteArray) (r:Rd) (m:Nat):Rd:=Qb3 T (rh3 T r m) 2
def rh5 (T:ByteArray) (r:Rd) (m:Nat):Rd:=Qb3 T (rh4 T r m) m
theorem Qw6{T:ByteArray}{r:Rd}(h:r.pos<=T.size):(rh1 T r).pos<=T.size:=Qb8 _ _ _ h
theorem Qw5{T:ByteArray}{r:Rd}(h:r.pos<=T.size):(rh2 T r).pos<=T.size:=Qb8 _ _ _ (Qw6 h)
theorem Qw4{T:ByteArray}{r:Rd}(m:Nat)(h:r.pos<=T.size):(rh3 T r m).pos<=T.size:=Qb8 _ _ _ (Qw5 h)
theorem rh4_pos{T:ByteArray}{r:Rd}(m:Nat)(h:r.pos<=T.size):(rh4 T r m).pos<=T.size:=Qb8 _ _ _ (Qw4 m h)
def rhD (T:ByteArray) (r:Rd) (m:Nat):Qak:=⟨(Qb0 (Qaq T r 2):Int),(Qb0 (Qaq T (rh1 T r) 2):Int),Qaq T (rh2 T r) m,(Qb0 (Qaq T (rh3 T r m) 2):Int),Qaq T (rh4 T r m) m⟩
theorem Qxc(g:Nat)(T:ByteArray)(r:Rd)(m:Nat)(w:World)(hB:Blk w g 246 (Qdd T r))(hp:r.pos<=T.size)(hT:T.size<=1099511627776)(hm:m<=1000) :
 Calls Tryz.prog 193 #[.pointer (some ⟨g,0,none⟩),.int .i64 (m:Int)] w fun e w'=>e=.returned (.agg #[.int .i64 (rhD T r m).number,.int .i64 (rhD T r m).size,.string (rhD T r m).root,.int .i64 (rhD T r m).taken,.string (rhD T r m).takenRoot])/\Blk w' g 246 (Qdd T (rh5 T r m))/\Qaz g w w':=by
 have hgl:=hB.lt
 have hZ:=Blk.new w 33 #[.int .i64 0,.int .i64 0,.string ⟨#[]⟩,.int .i64 0,.string ⟨#[]⟩]
 replace hB:=hB.alloc (.cells #[.int .i64 0,.int .i64 0,.string ⟨#[]⟩,.int .i64 0,.string ⟨#[]⟩] 33)
 have hx:=(Qaz.refl g w).alloc_ (.cells #[.int .i64 0,.int .i64 0,.string ⟨#[]⟩,.int .i64 0,.string ⟨#[]⟩] 33)
 go_enter Tryz.func193,Tryz.ntmps193
 go_wp2_with fail
 refine(Qeg g T r 2 _ hB hp hT (by decide)).mono ?_
 rintro e w1 ⟨rfl,hB,hy⟩
 replace hZ:=hZ.extBut hy (by omega)
 replace hx:=hx.next hy
 clear hy
 have hsz:=hZ.lt
 go_wp2_with fail
 have hgl1:=hB.lt
 have hD:=Blk.new w1 33 #[.int .i64 (Qb0 (Qaq T r 2):Int),.int .i64 0,.string ⟨#[]⟩,.int .i64 0,.string ⟨#[]⟩]
 replace hZ:=hZ.alloc (.cells #[.int .i64 (Qb0 (Qaq T r 2):Int),.int .i64 0,.string ⟨#[]⟩,.int .i64 0,.string ⟨#[]⟩] 33)
 replace hB:=hB.alloc (.cells #[.int .i64 (Qb0 (Qaq T r 2):Int),.int .i64 0,.string ⟨#[]⟩,.int .i64 0,.string ⟨#[]⟩] 33)
 replace hx:=hx.alloc_ (.cells #[.int .i64 (Qb0 (Qaq T r 2):Int),.int .i64 0,.string ⟨#[]⟩,.int .i64 0,.string ⟨#[]⟩] 33)
 obtain⟨g2,hg2⟩:∃ g2,g2=w1.heap.size:=⟨_,rfl⟩
 rw[<-hg2] at hD hsz hgl1
 rw[<-hg2]
 have hq1:¬ w.heap.size=g2:=by omega
 have hq2:¬ g=g2:=by omega
 clear hg2
 refine(Qeg g T (rh1 T r) 2 _ hB (Qw6 hp) hT (by decide)).mono ?_
 rintro e w2 ⟨rfl,hB,hy⟩
 replace hZ:=hZ.extBut hy (by omega)
 replace hD:=hD.extBut hy (by omega)
 replace hx:=hx.next hy
 clear hy
 obtain⟨hc,hf⟩:=hD.rules
 go_wp2_with fail
 clear hc hf
 replace hZ:=hZ.far (p:=⟨g2,1,none⟩) hq1 (.int .i64 (Qb0 (Qaq T (rh1 T r) 2):Int))
 replace hB:=hB.far (p:=⟨g2,1,none⟩) hq2 (.int .i64 (Qb0 (Qaq T (rh1 T r) 2):Int))
 replace hD:=hD.set_ 1 (.int .i64 (Qb0 (Qaq T (rh1 T r) 2):Int))
 replace hx:Qaz g w _:=hx.setNew (p:=⟨g2,1,none⟩) (by show w.heap.size<=g2;omega) (.int .i64 (Qb0 (Qaq T (rh1 T r) 2):Int))
 refine(Qfo g T (rh2 T r) m _ hB (Qw5 hp) hT (by omega)).mono ?_
 rintro e w3 ⟨rfl,hB,hy⟩
 replace hZ:=hZ.extBut hy (by omega)
 replace hD:=hD.extBut hy (by omega)
 replace hx:=hx.next hy
 clear hy
 obtain⟨hc,hf⟩:=hD.rules
 go_wp2_with fail
 clear hc hf
 replace hZ:=hZ.far (p:=⟨g2,2,none⟩) hq1 (.string (Qaq T (rh2 T r) m))
 replace hB:=hB.far (p:=⟨g2,2,none⟩) hq2 (.string (Qaq T (rh2 T r) m))
 replace hD:=hD.set_ 2 (.string (Qaq T (rh2 T r) m))
 replace hx:Qaz g w _:=hx.setNew (p:=⟨g2,2,none⟩) (by show w.heap.size<=g2;omega) (.string (Qaq T (rh2 T r) m))
 refine(Qeg g T (rh3 T r m) 2 _ hB (Qw4 m hp) hT (by decide)).mono ?_
 rintro e w4 ⟨rfl,hB,hy⟩
 replace hZ:=hZ.extBut hy (by omega)
 replace hD:=hD.extBut hy (by omega)
 replace hx:=hx.next hy
 clear hy
 obtain⟨hc,hf⟩:=hD.rules
 go_wp2_with fail
 clear hc hf
 replace hZ:=hZ.far (p:=⟨g2,3,none⟩) hq1 (.int .i64 (Qb0 (Qaq T (rh3 T r m) 2):Int))
 replace hB:=hB.far (p:=⟨g2,3,none⟩) hq2 (.int .i64 (Qb0 (Qaq T (rh3 T r m) 2):Int))
 replace hD:=hD.set_ 3 (.int .i64 (Qb0 (Qaq T (rh3 T r m) 2):Int))
 replace hx:Qaz g w _:=hx.setNew (p:=⟨g2,3,none⟩) (by show w.heap.size<=g2;omega) (.int .i64 (Qb0 (Qaq T (rh3 T r m) 2):Int))
 refine(Qfo g T (rh4 T r m) m _ hB (rh4_pos m hp) hT (by omega)).mono ?_
 rintro e w5 ⟨rfl,hB,hy⟩
 replace hZ:=hZ.extBut hy (by omega)
 replace hD:=hD.extBut hy (by omega)
 replace hx:=hx.next hy
 clear hy
 obtain⟨hc,hf⟩:=hD.rules
 go_upto_region 6 with fail
 clear hc hf
 replace hZ:=hZ.far (p:=⟨g2,4,none⟩) hq1 (.string (Qaq T (rh4 T r m) m))
 replace hB:=hB.far (p:=⟨g2,4,none⟩) hq2 (.string (Qaq T (rh4 T r m) m))
 replace hD:=hD.set_ 4 (.string (Qaq T (rh4 T r m) m))
 replace hx:Qaz g w _:=hx.setNew (p:=⟨g2,4,none⟩) (by show w.heap.size<=g2;omega) (.string (Qaq T (rh4 T r m) m))
 replace hD:Blk _ g2 33 #[.int .i64 (rhD T r m).number,.int .i64 (rhD T r m).size,.string (rhD T r m).root,.int .i64 (rhD T r m).taken,.string (rhD T r m).takenRoot]:=hD
 replace hB:Blk _ _ 246 (Qdd T (rh5 T r m)):=hB
 generalize w5.setCell ⟨g2,4,none⟩ (.string (Qaq T (rh4 T r m) m))=w9 at *
 obtain⟨hc,hf⟩:=hD.rules
 obtain⟨hzc,hzf⟩:=hZ.rules
 go_wp2_with fail
 have hz:=hZ.put 0 (rhD T r m).cells (rhD T r m).cells.toArray (by simp[Qak.cells]) rfl
 have hb:=hB.farCells (g':=w.heap.size) (by omega) (rhD T r m).cells 0
 have hy:=Qaz.setCellsNew (a:=w) (q:=w.heap.size) (Nat.le_refl _) (rhD T r m).cells 0 w9 hx
 change bodyPost _ _ _ _ _ (w9.setCells w.heap.size 0 (rhD T r m).cells)
 generalize w9.setCells w.heap.size 0 (rhD T r m).cells=w10 at *
 clear hc hf hzc hzf hZ hB hx hD
 refine Qdc rfl rfl hz Tryz.underlying33 rfl (by kernel_rfl) rfl ?_
 exact⟨rfl,hb,hy⟩
set_option maxHeartbeats 2000000
def Qx0 (h:Qak):ByteArray:=lowB h.number.toNat 2++lowB h.size.toNat 2++h.root++lowB h.taken.toNat 2++h.takenRoot
def Qa4 (n:Int) (h:Qak):ByteArray:=if Qbc n h then Qx0 h else⟨#[]⟩
theorem Qfz{n:Int}{h:Qak}(hk:Qbc n h=true):1<=n/\n<=32/\0<=h.number/\h.number<=399/\0<=h.size/\h.size<=512/\(h.root.size:Int)=n/\0<=h.taken/\h.taken<=512/\(h.takenRoot.size:Int)=n:=by
 simp only[Qbc,Qfg,Bool.and_eq_true,beq_iff_eq] at hk
 obtain⟨⟨⟨h1,h2⟩,⟨h3,h4⟩,_⟩,⟨h5,h6⟩,_⟩:=hk
 have:=Qa0 h1
 have:=Qa0 h2
 have:=Qa0 h3
 have:=Qa0 h5
 omega
theorem Qht(n:Int)(d:Qak)(w:World):Calls Tryz.prog 163 #[.int .i64 n,.agg #[.int .i64 d.number,.int .i64 d.size,.string d.root,.int .i64 d.taken,.string d.takenRoot]] w fun e w'=>e=.returned (.tuple #[.string (Qa4 n d),.bool (Qbc n d)])/\Ext w w':=by
 have K0:=hU (Blk.new w 33 #[.int .i64 d.number,.int .i64 d.size,.string d.root,.int .i64 d.taken,.string d.takenRoot])
 have He:=hU (Ext.new (Below.refl w.heap.size w) (.cells #[.int .i64 d.number,.int .i64 d.size,.string d.root,.int .i64 d.taken,.string d.takenRoot] 33))
 cases b:Qbc n d
 · have Ht:=hU (show Qa4 n d=⟨#[]⟩ by simp[Qa4,b])
   go_enter Tryz.func163,Tryz.ntmps163
   go_wp2_with fail
   refine(Qgt n d _).mono ?_
   rintro e w1 ⟨rfl,h1⟩
   have he:=He.out.next h1
   go_wp2_with fail
   go_ret2
   exact⟨by rw[Ht.out];rfl,he⟩
 · have Ht:=hU (show Qa4 n d=lowB d.number.toNat 2++lowB d.size.toNat 2++d.root++lowB d.taken.toNat 2++d.takenRoot by simp[Qa4,b,Qx0])
   obtain⟨z0,z1,z2,z3,z4,z5,z6,z7,z8,z9⟩:=Qfz b
   have y1:(lowB d.number.toNat 2).size<=2:=by rw[Qby];exact Nat.le_refl _
   have y2:(lowB d.size.toNat 2).size<=2:=by rw[Qby];exact Nat.le_refl _
   have y3:(lowB d.taken.toNat 2).size<=2:=by rw[Qby];exact Nat.le_refl _
   have n1:¬ 9223372036854775807<(lowB d.number.toNat 2).size+(lowB d.size.toNat 2).size:=by omega
   have n2:¬ 9223372036854775807<(lowB d.number.toNat 2).size+(lowB d.size.toNat 2).size+d.root.size:=by omega
   have n3:¬ 9223372036854775807<(lowB d.number.toNat 2).size+(lowB d.size.toNat 2).size+d.root.size+(lowB d.taken.toNat 2).size:=by omega
   have n4:¬ 9223372036854775807<(lowB d.number.toNat 2).size+(lowB d.size.toNat 2).size+d.root.size+(lowB d.taken.toNat 2).size+d.takenRoot.size:=by omega
   clear z0 z1 z6 z9
   go_enter Tryz.func163,Tryz.ntmps163
   go_wp2_with fail
   obtain⟨g,hg⟩:∃ g,g=w.heap.size:=⟨_,rfl⟩
   rw[<-hg] at K0
   rw[<-hg]
   clear hg
   refine(Qgt n d _).mono ?_
   rintro e w1 ⟨rfl,h1⟩
   have he:=He.out.next h1
   have hB:=K0.out.ext h1
   clear h1 K0 He
   have c0:=hB.cell 0
   have c1:=hB.cell 1
   have c2:=hB.cell 2
   have c3:=hB.cell 3
   have c4:=hB.cell 4
   go_wp2_with fail
   go_region_held3 (fun w'=>w'.cell? ⟨g,0,none⟩=some (.int .i64 d.number)/\w'.cell? ⟨g,1,none⟩=some (.int .i64 d.size)/\w'.cell? ⟨g,2,none⟩=some (.string d.root)/\w'.cell? ⟨g,3,none⟩=some (.int .i64 d.taken)/\w'.cell? ⟨g,4,none⟩=some (.string d.takenRoot)/\Blk w' g 33 #[.int .i64 d.number,.int .i64 d.size,.string d.root,.int .i64 d.taken,.string d.takenRoot]/\Ext w w')
    (first
     | exact⟨c0,c1,c2,c3,c4,hB.drew,he.drew⟩
     | (go_split_ands;refine⟨?_,?_,?_,?_,?_,?_,?_⟩ <;> assumption)
     | (go_split_ands;have hB':=Blk.ext (by assumption) h1;exact⟨hB'.cell 0,hB'.cell 1,hB'.cell 2,hB'.cell 3,hB'.cell 4,hB',Ext.next (by assumption) h1⟩))
    (first
     | (go_at_call 85;refine(Qfd _ 2 _ (by omega) (by omega) (by decide)).mono ?_;rintro e w' ⟨rfl,h1⟩))
   all_goals
    go_wp2_with fail
    go_ret2
    refine⟨by rw[Ht.out];rfl,?_⟩
    go_split_ands
    assumption
def rh0:Rd:=⟨0,false⟩
def hrD (n:Int) (T:ByteArray):Qak:=rhD T rh0 n.toNat
def Qer (n:Int) (T:ByteArray):Bool:=inR n 1 32&&(Qfh T (rh5 T rh0 n.toNat)&&Qbc n (hrD n T))
def hrOut (ok:Bool) (d:Qak):Qak:=if ok then d else⟨0,0,⟨#[]⟩,0,⟨#[]⟩⟩
def Qta (ok:Bool) (d:Qak):Ending:=.returned (.tuple #[.agg (hrOut ok d).cells.toArray,.bool ok])
def Qak.zero:Qak:=⟨0,0,⟨#[]⟩,0,⟨#[]⟩⟩
theorem Qmg(n:Int)(T:ByteArray)(w:World)(hT:T.size<=1099511627776) :
 Calls Tryz.prog 115 #[.int .i64 n,.string T] w fun e w'=>e=Qta (Qer n T) (hrD n T)/\Ext w w':=by
 have Z0:=Blk.new w 33 #[.int .i64 0,.int .i64 0,.string ⟨#[]⟩,.int .i64 0,.string ⟨#[]⟩]
 have He0:=Ext.new (Below.refl w.heap.size w) (.cells #[.int .i64 0,.int .i64 0,.string ⟨#[]⟩,.int .i64 0,.string ⟨#[]⟩] 33)
 cases b1:inR n 1 32
 · have Hi:=hU (show Qer n T=false by simp[Qer,b1])
   obtain⟨zc,zf⟩:=Z0.rules
   go_enter Tryz.func115,Tryz.ntmps115
   go_wp2_with (go_at_call 55;refine(Qbn _ _).mono ?_;rintro e w' ⟨rfl,rfl⟩)
   refine Qat rfl rfl Z0 Tryz.underlying33 rfl (by kernel_rfl) rfl ⟨?_,He0⟩
   rw[Hi.out];rfl
 obtain⟨lw0,lw1⟩:=Qa0 b1
 obtain⟨m,rfl⟩:=Int.eq_ofNat_of_zero_le (show 0<=n by omega)
 obtain⟨fin,hfin⟩:∃ fin,fin=Qta (Qer (m:Int) T) (hrD (m:Int) T):=⟨_,rfl⟩
 rw[<-hfin]
 have hD0:hrD (m:Int) T=rhD T rh0 m:=by simp[hrD]
 have hI0:Qer (m:Int) T=(Qfh T (rh5 T rh0 m)&&Qbc (m:Int) (rhD T rh0 m)):=by simp only[Qer,b1,hD0,Int.toNat_natCast,Bool.true_and]
 rw[hD0,hI0] at hfin
 have Hfin:=hU hfin
 have KZ:=hU Z0
 have KE:=hU He0
 clear hfin hD0 hI0 Z0 He0
 go_enter Tryz.func115,Tryz.ntmps115
 go_wp2_with (go_at_call 55;refine(Qbn _ _).mono ?_;rintro e w' ⟨rfl,rfl⟩)
 have hB:Blk _ _ 246 (Qdd T rh0):=Blk.new (w.alloc (.cells #[.int .i64 0,.int .i64 0,.string ⟨#[]⟩,.int .i64 0,.string ⟨#[]⟩] 33)) 246 #[.string T,.int .i64 0,.bool false]
 have hZ:=KZ.out.alloc (.cells #[.string T,.int .i64 0,.bool false] 246)
 have he:=KE.out.new (.cells #[.string T,.int .i64 0,.bool false] 246)
 simp only[World.size_alloc] at hB
 clear KZ KE
 obtain⟨g,hg⟩:∃ g,g=w.heap.size:=⟨_,rfl⟩
 rw[<-hg] at hB hZ
 rw[<-hg]
 have Hg:w.heap.size<=g:=by omega
 clear hg
 refine(Qxc (g+1) T rh0 m _ hB (Nat.zero_le _) hT (by omega)).mono ?_
 rintro e w1 ⟨rfl,hB,hx⟩
 replace hZ:=hZ.extBut hx (by omega);replace he:=he.nextBut (by omega) hx;clear hx
 obtain⟨d,hd⟩:∃ d,d=rhD T rh0 m:=⟨_,rfl⟩
 rw[<-hd]
 rw[<-hd] at Hfin
 have Hd:=hU hd
 clear hd
 have hgl:=hZ.lt
 have hgl1:=hB.lt
 go_wp2_with fail
 have hD:=Blk.new w1 33 #[.int .i64 d.number,.int .i64 d.size,.string d.root,.int .i64 d.taken,.string d.takenRoot]
 replace hZ:=hZ.alloc (.cells #[.int .i64 d.number,.int .i64 d.size,.string d.root,.int .i64 d.taken,.string d.takenRoot] 33)
 replace hB:=hB.alloc (.cells #[.int .i64 d.number,.int .i64 d.size,.string d.root,.int .i64 d.taken,.string d.takenRoot] 33)
 replace he:=he.new (.cells #[.int .i64 d.number,.int .i64 d.size,.string d.root,.int .i64 d.taken,.string d.takenRoot] 33)
 obtain⟨g2,hg2⟩:∃ g2,g2=w1.heap.size:=⟨_,rfl⟩
 rw[<-hg2] at hD hgl hgl1
 rw[<-hg2]
 clear hg2
 generalize w1.alloc (.cells #[.int .i64 d.number,.int .i64 d.size,.string d.root,.int .i64 d.taken,.string d.takenRoot] 33)=w2 at *
 refine(Qhr _ T (rh5 T rh0 m) w2 hB).mono ?_
 rintro e w3 ⟨rfl,k,rfl⟩
 replace hZ:=hZ.drewN k;replace hD:=hD.drewN k;replace he:=he.drewN k
 clear hB
 generalize w2.drewN k=w4 at *
 obtain⟨dc,df⟩:=hD.rules
 obtain⟨zc,zf⟩:=hZ.rules
 cases b2:Qfh T (rh5 T rh0 m)
 · have Hi:=hU (show fin=Qta false d by rw[Hfin.out,b2];rfl)
   clear Hfin
   go_wp2_with fail
   have hz:=hZ.put 0 Qak.zero.cells Qak.zero.cells.toArray (by decide) rfl
   have hx:=Qaa (W:=w) (g:=g) Hg Qak.zero.cells 0 w4 he
   refine Qat rfl rfl hz Tryz.underlying33 rfl (by kernel_rfl) rfl ⟨?_,hx⟩
   rw[Hi.out];rfl
 cases b3:Qbc (m:Int) d
 · have Hi:=hU (show fin=Qta false d by rw[Hfin.out,b2,b3];rfl)
   clear Hfin
   go_wp2_with fail
   refine(Qbf _ d w4).mono ?_
   rintro e w5 ⟨rfl,h1⟩
   replace hZ:=hZ.ext h1;replace hD:=hD.ext h1;replace he:=he.next h1
   clear h1 dc df zc zf
   obtain⟨zc,zf⟩:=hZ.rules
   go_wp2_with fail
   have hz:=hZ.put 0 Qak.zero.cells Qak.zero.cells.toArray (by decide) rfl
   have hx:=Qaa (W:=w) (g:=g) Hg Qak.zero.cells 0 w5 he
   refine Qat rfl rfl hz Tryz.underlying33 rfl (by kernel_rfl) rfl ⟨?_,hx⟩
   rw[Hi.out];rfl
 · have Hi:=hU (show fin=Qta true d by rw[Hfin.out,b2,b3];rfl)
   clear Hfin
   go_wp2_with fail
   refine(Qbf _ d w4).mono ?_
   rintro e w5 ⟨rfl,h1⟩
   replace hZ:=hZ.ext h1;replace hD:=hD.ext h1;replace he:=he.next h1
   clear h1 dc df zc zf
   obtain⟨zc,zf⟩:=hZ.rules
   obtain⟨dc,df⟩:=hD.rules
   go_wp2_with fail
   have hz:=hZ.put 0 d.cells d.cells.toArray (by simp[Qak.cells]) rfl
   have hx:=Qaa (W:=w) (g:=g) Hg d.cells 0 w5 he
   refine Qat rfl rfl hz Tryz.underlying33 rfl (by kernel_rfl) rfl ⟨?_,hx⟩
   rw[Hi.out];rfl
end Go.Proofs.YtbnkjgcpjeedfaaGreat
