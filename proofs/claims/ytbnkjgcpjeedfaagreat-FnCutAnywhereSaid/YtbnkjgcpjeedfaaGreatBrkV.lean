/-
  ItemHash; ConvEntry; NLog; ConvReceipt; ConvHead; NRange; NSeal; NBroker; ClientNw; Broker0; Broker1; BrkV: No condition.
-/
import Derived.Test.YtbnkjgcpjeedfaaGreatLeaf
import Derived.Test.YtbnkjgcpjeedfaaGreatLeafText
import Derived.Test.YtbnkjgcpjeedfaaGreatRowTx
import Derived.StillTailTactics
import Derived.Test.YtbnkjgcpjeedfaaGreatHeadOps
namespace Go.Proofs.YtbnkjgcpjeedfaaGreat
set_option maxHeartbeats 1000000
set_option linter.unusedSimpArgs false
open Go.RowKit
set_option linter.unusedVariables false
def Qlp (n:Int) (e:Qaf):Bool:=Qbk e&&Qbr n 0 (Qa3 e)
def Qgk (n:Int) (e:Qaf):ByteArray:=if Qbk e then Qcy n 0 (Qa3 e) else⟨#[]⟩
def Qpc (n:Int) (r:Qab):Bool:=Qau r&&Qbr n 2 (Qan r)
def recH (n:Int) (r:Qab):ByteArray:=if Qau r then Qcy n 2 (Qan r) else⟨#[]⟩
theorem Qpg(k:Int):(octB k).size=1:=rfl
theorem Qdr(d:Qaf):(Qa3 d).size<=1000:=by
 unfold Qa3
 by_cases h:Qbk d=true
 · have:=Qd0 h
   rw[if_pos h,Qva]
   have e:(lowB d.time.toNat 4).size=4:=rfl
   have e1:(⟨#[69]⟩:ByteArray).size=1:=rfl
   simp only[ByteArray.size_append,Qpg,e,e1]
   omega
 · rw[if_neg h];decide
theorem Qco(d:Qab):(Qan d).size<=1000:=by
 unfold Qan
 by_cases h:Qau d=true
 · have h':=h
   simp only[Qau,Bool.and_eq_true] at h'
   have s1:=Qb7 h'.1.1
   have s2:=Qb7 h'.1.2
   rw[if_pos h,Qit]
   have e1:(⟨#[82]⟩:ByteArray).size=1:=rfl
   simp only[ByteArray.size_append,Qpg,e1]
   omega
 · rw[if_neg h];decide
theorem Qcx{b:ByteArray}(h:b.size<=1000):b.size<=maxLen:=by unfold maxLen;omega
theorem Qnd{n:Int}{e:Qaf}(h:Qbk e=true):Qgk n e=Qcy n 0 (Qa3 e)/\Qlp n e=Qbr n 0 (Qa3 e):=by simp[Qgk,Qlp,h]
theorem Que{n:Int}{e:Qaf}(h:Qbk e=false):Qgk n e=⟨#[]⟩/\Qlp n e=false:=by simp[Qgk,Qlp,h]
theorem Qp8{n:Int}{e:Qab}(h:Qau e=true):recH n e=Qcy n 2 (Qan e)/\Qpc n e=Qbr n 2 (Qan e):=by simp[recH,Qpc,h]
theorem Qxa{n:Int}{e:Qab}(h:Qau e=false):recH n e=⟨#[]⟩/\Qpc n e=false:=by simp[recH,Qpc,h]
theorem Qmh(n:Int)(d:Qaf)(w:World)(hd:d.Ok):Calls Tryz.prog 142 #[.int .i64 n,.agg #[.string d.topic,.int .i64 d.index,.int .i64 d.time,.string d.key,.string d.body]] w fun e w'=>e=.returned (.tuple #[.string (Qgk n d),.bool (Qlp n d)])/\Ext w w':=by
 have Hd:=hU hd;clear hd
 cases b:Qbk d
 · obtain⟨e1,e2⟩:=Que (n:=n) b
   rw[e1,e2]
   go_enter Tryz.func142,Tryz.ntmps142
   go_wp2_with fail
   refine(Qgr d _ Hd.out).mono ?_
   rintro e w1 ⟨rfl,h1⟩
   rw[b]
   go_wp2_with fail
   go_ret2
   exact⟨rfl,by first|exact h1|exact Ext.next (Ext.new (Below.refl _ _) _) h1⟩
 · obtain⟨e1,e2⟩:=Qnd (n:=n) b
   rw[e1,e2]
   have hs:=Qcx (Qdr d)
   go_enter Tryz.func142,Tryz.ntmps142
   go_wp2_with fail
   refine(Qgr d _ Hd.out).mono ?_
   rintro e w1 ⟨rfl,h1⟩
   rw[b]
   go_wp2_with fail
   refine(Qf3 n 0 (Qa3 d) _ hs).mono ?_
   rintro e w2 ⟨rfl,h2⟩
   go_wp2_with fail
   go_ret2
   exact⟨rfl,by first|exact h1.next h2|exact Ext.next (Ext.new (Below.refl _ _) _) (h1.next h2)⟩
theorem Qjw(n:Int)(d:Qab)(w:World)(hd:d.Ok):Calls Tryz.prog 144 #[.int .i64 n,.agg #[.string d.reader,.string d.topic,.int .i64 d.index]] w fun e w'=>e=.returned (.tuple #[.string (recH n d),.bool (Qpc n d)])/\Ext w w':=by
 have Hd:=hU hd;clear hd
 cases b:Qau d
 · obtain⟨e1,e2⟩:=Qxa (n:=n) b
   rw[e1,e2]
   go_enter Tryz.func144,Tryz.ntmps144
   go_wp2_with fail
   refine(Qet d _ Hd.out).mono ?_
   rintro e w1 ⟨rfl,h1⟩
   rw[b]
   go_wp2_with fail
   go_ret2
   exact⟨rfl,by first|exact h1|exact Ext.next (Ext.new (Below.refl _ _) _) h1⟩
 · obtain⟨e1,e2⟩:=Qp8 (n:=n) b
   rw[e1,e2]
   have hs:=Qcx (Qco d)
   go_enter Tryz.func144,Tryz.ntmps144
   go_wp2_with fail
   refine(Qet d _ Hd.out).mono ?_
   rintro e w1 ⟨rfl,h1⟩
   rw[b]
   go_wp2_with fail
   refine(Qf3 n 2 (Qan d) _ hs).mono ?_
   rintro e w2 ⟨rfl,h2⟩
   go_wp2_with fail
   go_ret2
   exact⟨rfl,by first|exact h1.next h2|exact Ext.next (Ext.new (Below.refl _ _) _) (h1.next h2)⟩
theorem Qma(n:Int)(d:Qaf)(w:World)(hd:d.Ok):Calls Tryz.prog 75 #[.int .i64 n,.agg #[.string d.topic,.int .i64 d.index,.int .i64 d.time,.string d.key,.string d.body]] w fun e w'=>e=.returned (.tuple #[.string (Qgk n d),.bool (Qlp n d)])/\Ext w w':=by
 have Hd:=hU hd;clear hd
 cases b:Qbk d
 · obtain⟨e1,e2⟩:=Que (n:=n) b
   rw[e1,e2]
   go_enter Tryz.func75,Tryz.ntmps75
   go_wp2_with fail
   refine(Qd4 d _ Hd.out).mono ?_
   rintro e w1 ⟨rfl,h1⟩
   rw[b]
   go_wp2_with fail
   go_ret2
   exact⟨rfl,by first|exact h1|exact Ext.next (Ext.new (Below.refl _ _) _) h1⟩
 · obtain⟨e1,e2⟩:=Qnd (n:=n) b
   rw[e1,e2]
   have hs:=Qcx (Qdr d)
   go_enter Tryz.func75,Tryz.ntmps75
   go_wp2_with fail
   refine(Qd4 d _ Hd.out).mono ?_
   rintro e w1 ⟨rfl,h1⟩
   rw[b]
   go_wp2_with fail
   refine(Qdv n 0 (Qa3 d) _ hs).mono ?_
   rintro e w2 ⟨rfl,h2⟩
   go_wp2_with fail
   go_ret2
   exact⟨rfl,by first|exact h1.next h2|exact Ext.next (Ext.new (Below.refl _ _) _) (h1.next h2)⟩
theorem Qjo(n:Int)(d:Qab)(w:World)(hd:d.Ok):Calls Tryz.prog 77 #[.int .i64 n,.agg #[.string d.reader,.string d.topic,.int .i64 d.index]] w fun e w'=>e=.returned (.tuple #[.string (recH n d),.bool (Qpc n d)])/\Ext w w':=by
 have Hd:=hU hd;clear hd
 cases b:Qau d
 · obtain⟨e1,e2⟩:=Qxa (n:=n) b
   rw[e1,e2]
   go_enter Tryz.func77,Tryz.ntmps77
   go_wp2_with fail
   refine(Qc1 d _ Hd.out).mono ?_
   rintro e w1 ⟨rfl,h1⟩
   rw[b]
   go_wp2_with fail
   go_ret2
   exact⟨rfl,by first|exact h1|exact Ext.next (Ext.new (Below.refl _ _) _) h1⟩
 · obtain⟨e1,e2⟩:=Qp8 (n:=n) b
   rw[e1,e2]
   have hs:=Qcx (Qco d)
   go_enter Tryz.func77,Tryz.ntmps77
   go_wp2_with fail
   refine(Qc1 d _ Hd.out).mono ?_
   rintro e w1 ⟨rfl,h1⟩
   rw[b]
   go_wp2_with fail
   refine(Qdv n 2 (Qan d) _ hs).mono ?_
   rintro e w2 ⟨rfl,h2⟩
   go_wp2_with fail
   go_ret2
   exact⟨rfl,by first|exact h1.next h2|exact Ext.next (Ext.new (Below.refl _ _) _) (h1.next h2)⟩

structure LogD where
 entries:List Qaf


structure Qfq where
 size:Int
 peaks:List ByteArray
structure Qlb where
 leaves:Qfq
 taken:Qfq
 head:Qak
structure Qad where
 width:Int
 log:LogD
 receipts:List Qab
 heads:List Qak
 sealed:Qlb
def newH (ok:Bool) (n:Int):Qak:=if ok then⟨0,0,Qcg n,0,Qcg n⟩ else⟨0,0,⟨#[]⟩,0,⟨#[]⟩⟩
theorem Qub(n:Int):newH true n=⟨0,0,Qcg n,0,Qcg n⟩:=rfl
theorem Qmu(n:Int)(w:World):Calls Tryz.prog 203 #[.int .i64 n] w fun e w'=>e=.returned (.tuple #[.agg #[.int .i64 (newH (inR n 1 32) n).number,.int .i64 (newH (inR n 1 32) n).size,.string (newH (inR n 1 32) n).root,.int .i64 (newH (inR n 1 32) n).taken,.string (newH (inR n 1 32) n).takenRoot],.bool (inR n 1 32)])/\Ext w w':=by
 have K0:=hU (Blk.new w 33 #[.int .i64 0,.int .i64 0,.string ⟨#[]⟩,.int .i64 0,.string ⟨#[]⟩])
 have He:=hU (Ext.new (Below.refl w.heap.size w) (.cells #[.int .i64 0,.int .i64 0,.string ⟨#[]⟩,.int .i64 0,.string ⟨#[]⟩] 33))
 cases b:inR n 1 32
 all_goals
  go_enter Tryz.func203,Tryz.ntmps203
  go_wp2_with fail
  obtain⟨g,hg⟩:∃ g,g=w.heap.size:=⟨_,rfl⟩
  rw[<-hg] at K0
  rw[<-hg]
  have Hg:w.heap.size<=g:=by omega
  clear hg
  refine(Qdq n _).mono ?_
  rintro e w1 ⟨rfl,h1⟩
  have hZ:=K0.out.ext h1;have he:=He.out.next h1
  clear h1 K0 He
  obtain⟨zc,zf⟩:=hZ.rules
  go_wp2_with fail
 · have hz:=hZ.put 0 [.int .i64 0,.int .i64 0,.string ⟨#[]⟩,.int .i64 0,.string ⟨#[]⟩] #[.int .i64 0,.int .i64 0,.string ⟨#[]⟩,.int .i64 0,.string ⟨#[]⟩] (by decide) rfl
   have hx:=Qaa (W:=w) (g:=g) Hg [.int .i64 0,.int .i64 0,.string ⟨#[]⟩,.int .i64 0,.string ⟨#[]⟩] 0 w1 he
   exact Qat rfl rfl hz Tryz.underlying33 rfl (by kernel_rfl) rfl ⟨rfl,hx⟩
 · have hz:=hZ.put 0 [.int .i64 (newH true n).number,.int .i64 (newH true n).size,.string (newH true n).root,.int .i64 (newH true n).taken,.string (newH true n).takenRoot] #[.int .i64 (newH true n).number,.int .i64 (newH true n).size,.string (newH true n).root,.int .i64 (newH true n).taken,.string (newH true n).takenRoot] (by simp) rfl
   have hx:=Qaa (W:=w) (g:=g) Hg [.int .i64 (newH true n).number,.int .i64 (newH true n).size,.string (newH true n).root,.int .i64 (newH true n).taken,.string (newH true n).takenRoot] 0 w1 he
   exact Qat rfl rfl hz Tryz.underlying33 rfl (by kernel_rfl) rfl ⟨rfl,hx⟩
theorem Qie(n:Int)(w:World):Calls Tryz.prog 114 #[.int .i64 n] w fun e w'=>e=.returned (.tuple #[.agg #[.int .i64 (newH (inR n 1 32) n).number,.int .i64 (newH (inR n 1 32) n).size,.string (newH (inR n 1 32) n).root,.int .i64 (newH (inR n 1 32) n).taken,.string (newH (inR n 1 32) n).takenRoot],.bool (inR n 1 32)])/\Ext w w':=by
 have K0:=hU (Blk.new w 33 #[.int .i64 0,.int .i64 0,.string ⟨#[]⟩,.int .i64 0,.string ⟨#[]⟩])
 have He:=hU (Ext.new (Below.refl w.heap.size w) (.cells #[.int .i64 0,.int .i64 0,.string ⟨#[]⟩,.int .i64 0,.string ⟨#[]⟩] 33))
 cases b:inR n 1 32
 · go_enter Tryz.func114,Tryz.ntmps114
   go_wp2_with (go_at_call 55;refine(Qbn _ _).mono ?_;rintro e w' ⟨rfl,rfl⟩)
   exact Qat rfl rfl K0.out Tryz.underlying33 rfl (by kernel_rfl) rfl ⟨rfl,He.out⟩
 · go_enter Tryz.func114,Tryz.ntmps114
   go_wp2_with (go_at_call 55;refine(Qbn _ _).mono ?_;rintro e w' ⟨rfl,rfl⟩)
   obtain⟨g,hg⟩:∃ g,g=w.heap.size:=⟨_,rfl⟩
   rw[<-hg] at K0
   rw[<-hg]
   have Hg:w.heap.size<=g:=by omega
   clear hg
   refine(Qhq n _).mono ?_
   rintro e w1 ⟨rfl,h1⟩
   have hZ:=K0.out.ext h1;have he:=He.out.next h1
   clear h1 K0 He
   obtain⟨zc,zf⟩:=hZ.rules
   go_wp2_with fail
   have hz:=hZ.put 0 [.int .i64 (newH true n).number,.int .i64 (newH true n).size,.string (newH true n).root,.int .i64 (newH true n).taken,.string (newH true n).takenRoot] #[.int .i64 (newH true n).number,.int .i64 (newH true n).size,.string (newH true n).root,.int .i64 (newH true n).taken,.string (newH true n).takenRoot] (by simp) rfl
   have hx:=Qaa (W:=w) (g:=g) Hg [.int .i64 (newH true n).number,.int .i64 (newH true n).size,.string (newH true n).root,.int .i64 (newH true n).taken,.string (newH true n).takenRoot] 0 w1 he
   exact Qat rfl rfl hz Tryz.underlying33 rfl (by kernel_rfl) rfl ⟨rfl,hx⟩
def Qed (p:Nat->Bool):Nat->Bool
 | 0=>true
 | k+1=>Qed p k&&p k
theorem Qd2{p:Nat->Bool}{k:Nat}(h:p k=false):∀ n,k<n->Qed p n=false
 | 0,hn=>absurd hn (by omega)
 | n+1,hn=>by
   by_cases e:k=n
   · subst e;rw[Qed,h,Bool.and_false]
   · rw[Qed,Qd2 h n (by omega),Bool.false_and]
theorem Qe9{p:Nat->Bool}{k:Nat}(h:Qed p k=true)(h2:p k=true):Qed p (k+1)=true:=by rw[Qed,h,h2];rfl
theorem Qdl{p:Nat->Bool}:∀ {n:Nat},Qed p n=true↔∀ k,k<n->p k=true
 | 0=>⟨fun _ k h=>absurd h (by omega),fun _=>rfl⟩
 | n+1=>by
   rw[Qed,Bool.and_eq_true,Qdl (n:=n)]
   refine⟨fun h k hk=>?_,fun h=>⟨fun k hk=>h k (by omega),h n (by omega)⟩⟩
   by_cases e:k=n
   · subst e;exact h.2
   · exact h.1 k (by omega)
def idxB {α:Type} (p:α->Bool):List α->Int
 | []=>-1
 | x :: r=>if p x then 0 else if idxB p r<0 then -1 else idxB p r+1
theorem Qgd{α:Type}{p:α->Bool}:∀ {l:List α},(∀ x∈l,p x=false)->idxB p l=-1
 | [],_=>rfl
 | x :: r,h=>by
   have:=Qgd (p:=p) (l:=r) (fun y hy=>h y (by simp[hy]))
   rw[idxB,if_neg (by rw[h x (by simp)];decide),if_pos (by omega)]
theorem Qhn{α:Type}{p:α->Bool}:∀ {l:List α} {k:Nat} {x:α},l[k]?=some x->p x=true->(∀ y∈l.take k,p y=false)->idxB p l=(k:Int)
 | [],k,x,h,_,_=>by simp at h
 | y :: r,0,x,h,hp,_=>by
   obtain rfl:y=x:=by simpa using h
   rw[idxB,if_pos hp];rfl
 | y :: r,k+1,x,h,hp,hn=>by
   have h1:=Qhn (p:=p) (l:=r) (k:=k) (x:=x) (by simpa using h) hp (fun z hz=>hn z (by simp[hz]))
   rw[idxB,if_neg (by rw[hn y (by simp)];decide),if_neg (by omega),h1];omega
theorem Qkq{α:Type}{p:α->Bool}:∀ {l:List α} {k:Nat},idxB p l=(k:Int)->∃ x,l[k]?=some x/\p x=true/\∀ y∈l.take k,p y=false
 | [],k,h=>by rw[idxB] at h;omega
 | y :: r,k,h=>by
   rw[idxB] at h
   split at h
   · rename_i hp
     obtain rfl:k=0:=by omega
     exact⟨y,rfl,hp,by simp⟩
   · rename_i hp
     split at h
     · omega
     · obtain⟨m,rfl⟩:∃ m,k=m+1:=⟨k-1,by omega⟩
       obtain⟨x,h1,h2,h3⟩:=Qkq (p:=p) (l:=r) (k:=m) (by omega)
       refine⟨x,by simpa using h1,h2,fun z hz=>?_⟩
       rw[List.take_succ_cons,List.mem_cons] at hz
       rcases hz with rfl|hz
       · simpa using hp
       · exact h3 z hz
theorem Qqp{α:Type}{p:α->Bool}:∀ {l:List α},idxB p l<0->∀ x∈l,p x=false
 | [],_,x,hx=>by simp at hx
 | y :: r,h,x,hx=>by
   rw[idxB] at h
   split at h
   · omega
   · rename_i hp
     split at h
     · rename_i h2
       rcases List.mem_cons.1 hx with rfl|hx
       · simpa using hp
       · exact Qqp h2 x hx
     · omega
theorem Qif{α:Type}{p:α->Bool}(l:List α)(n:Nat):decide (0<=idxB p (l.take n))=(decide (0<=idxB p l)&&decide (idxB p l<=(n:Int)-1)):=by
 rcases Int.lt_or_le (idxB p l) 0 with h|h
 · have:=Qgd (p:=p) (l:=l.take n) (fun x hx=>Qqp h x (List.mem_of_mem_take hx))
   rw[this]
   have:¬ 0<=idxB p l:=by omega
   simp[this]
 · obtain⟨k,hk⟩:∃ k:Nat,idxB p l=(k:Int):=⟨(idxB p l).toNat,by omega⟩
   obtain⟨x,h1,h2,h3⟩:=Qkq hk
   have hkl:k<l.length:=(List.getElem?_eq_some_iff.1 h1).1
   by_cases hn:k<n
   · have:=Qhn (p:=p) (l:=l.take n) (k:=k) (x:=x) (by rw[List.getElem?_take_of_lt hn];exact h1) h2 (fun y hy=>h3 y (by rw[List.take_take,Nat.min_eq_left (by omega)] at hy;exact hy))
     rw[this,hk]
     have e1:(0:Int)<=(k:Int):=by omega
     have e2:(k:Int)<=(n:Int)-1:=by omega
     simp only[e1,e2,decide_true,Bool.and_self]
   · have:=Qgd (p:=p) (l:=l.take n) (fun y hy=>h3 y (by
      have:l.take n=(l.take k).take n:=by rw[List.take_take,Nat.min_eq_left (by omega)]
      rw[this] at hy
      exact List.mem_of_mem_take hy))
     rw[this,hk]
     have e2:¬ (k:Int)<=(n:Int)-1:=by omega
     simp[e2]
def Qqf (l:List Qaf) (i:Nat):Bool:=match l[i]? with
 | some d=>Qbk d&&((cntT (l.take i) d.topic:Int)==d.index)
 | none=>false
def Qgj (l:List Qaf):Bool:=decide (l.length<=512)&&Qed (Qqf l) l.length
def Qp9 (l:List Qab) (i:Nat):Bool:=match l[i]? with
 | some r=>Qau r&&(idxB (fun x=>x.eqb r) l==(i:Int))
 | none=>false
def Qdx (l:List Qab):Bool:=decide (l.length<=512)&&Qed (Qp9 l) l.length
def Qcc (n:Int) (a b:Qak):Bool:=Qbc n a&&Qbc n b&&decide (a.number<b.number)&&decide (a.size<=b.size)&&decide (a.taken<=b.taken)&&!Ql0 a b
def Qeh (n:Int) (l:List Qak) (i:Nat):Bool:=match l[i]? with
 | some h=>Qbc n h&&(h.number==(i:Int))&&(match i with
   | 0=>true
   | j+1=>match l[j]? with
     | some g=>Qcc n g h
     | none=>false)
 | none=>false
def Qdj (n:Int) (l:List Qak):Bool:=inR n 1 32&&decide (l.length<=400)&&Qed (Qeh n l) l.length
def Qbi (w:Int) (l:List ByteArray):Qfq:=⟨l.length,(Qbt (ndB w) l).reverse⟩
def Qc0 (w:Int) (L T:List ByteArray) (hs:List Qak) (i:Nat):Bool:=match hs[i]? with
 | some h=>decide (h.size<=L.length)&&decide (h.taken<=T.length)&&(h.root.toList==(Qff w (L.take h.size.toNat)).toList)&&(h.takenRoot.toList==(Qff w (T.take h.taken.toNat)).toList)
 | none=>false
def hz:Qak:=⟨0,0,⟨#[]⟩,0,⟨#[]⟩⟩
def Qaw (hs:List Qak):Qak:=hs.getLastD hz
def Qa8 (w:Int) (l:List Qaf):List ByteArray:=l.map (Qgk w)
def Qbp (w:Int) (l:List Qab):List ByteArray:=l.map (recH w)
def Qbx (w:Int) (L T:List ByteArray) (h:Qak):Qlb:=⟨Qbi w (L.take h.size.toNat),Qbi w (T.take h.taken.toNat),h⟩
def ofTI (t:ByteArray) (i:Int) (e:Qaf):Bool:=(e.topic.toList==t.toList)&&(e.index==i)
def Qh6 (b:Qad) (i:Nat):Bool:=match b.receipts[i]? with
 | some r=>decide (0<=idxB (ofTI r.topic r.index) (b.log.entries.take (Qaw b.heads).size.toNat))
 | none=>false
def Qbu (b:Qad):Bool:=
 inR b.width 1 32&&Qgj b.log.entries&&Qdx b.receipts&&decide (0<b.heads.length)&&Qdj b.width b.heads&&((b.heads.headD hz).eqb (newH true b.width)) &&
 Qed (Qc0 b.width (Qa8 b.width b.log.entries) (Qbp b.width b.receipts) b.heads) b.heads.length&&Qed (Qh6 b) b.receipts.length
def Qh8 (a b:List ByteArray):Bool:=a.map ByteArray.toList==b.map ByteArray.toList
def Qcb (a b:Qfq):Bool:=(a.size==b.size)&&Qh8 a.peaks b.peaks
def Qf9 (a b:Qlb):Bool:=Qcb a.leaves b.leaves&&Qcb a.taken b.taken&&a.head.eqb b.head
def Qar (b:Qad):Bool:=Qbu b&&Qf9 (Qbx b.width (Qa8 b.width b.log.entries) (Qbp b.width b.receipts) (Qaw b.heads)) b.sealed
theorem Qfm{a b:ByteArray}:a.toList=b.toList↔a=b:=Qfn
theorem Qiw{a b:List ByteArray}:Qh8 a b=true↔a=b:=by
 unfold Qh8
 rw[beq_iff_eq]
 refine⟨fun h=>?_,fun h=>by rw[h]⟩
 induction a generalizing b with
 | nil=>cases b with
   | nil=>rfl
   | cons y b=>simp at h
 | cons x a ih=>cases b with
   | nil=>simp at h
   | cons y b=>
     simp only[List.map_cons,List.cons.injEq] at h
     rw[Qfm.1 h.1,ih h.2]
theorem Qjd{a b:Qfq}:Qcb a b=true↔a=b:=by
 obtain⟨s,p⟩:=a
 obtain⟨t,q⟩:=b
 simp[Qcb,Qiw]
theorem Qfv{a b:Qlb}:Qf9 a b=true↔a=b:=by
 obtain⟨s,p,h⟩:=a
 obtain⟨t,q,g⟩:=b
 simp[Qf9,Qjd,Qak.eqb_iff,and_assoc]
theorem Qvb{w:Int}{e:Qaf}(hw:inR w 1 32=true)(he:Qbk e=true):(Qgk w e).size=w.toNat:=by
 rw[(Qnd he).1]
 have:=Qdr e
 exact Qeb (by rw[Qbr,hw];simp[inR];omega)
theorem Qw9{w:Int}{e:Qab}(hw:inR w 1 32=true)(he:Qau e=true):(recH w e).size=w.toNat:=by
 rw[(Qp8 he).1]
 have:=Qco e
 exact Qeb (by rw[Qbr,hw];simp[inR];omega)
theorem Qgb{l:List Qaf}(h:Qgj l=true):l.length<=512/\∀ e∈l,Qbk e=true:=by
 simp only[Qgj,Bool.and_eq_true,decide_eq_true_eq,Qdl] at h
 refine⟨h.1,fun e he=>?_⟩
 obtain⟨i,hi⟩:=List.getElem?_of_mem he
 have:=h.2 i (List.getElem?_eq_some_iff.1 hi).1
 rw[Qqf,hi,Bool.and_eq_true] at this
 exact this.1
theorem Qe0{l:List Qab}(h:Qdx l=true):l.length<=512/\∀ e∈l,Qau e=true:=by
 simp only[Qdx,Bool.and_eq_true,decide_eq_true_eq,Qdl] at h
 refine⟨h.1,fun e he=>?_⟩
 obtain⟨i,hi⟩:=List.getElem?_of_mem he
 have:=h.2 i (List.getElem?_eq_some_iff.1 hi).1
 rw[Qp9,hi,Bool.and_eq_true] at this
 exact this.1
theorem Qib{w:Int}{l:List Qaf}(hw:inR w 1 32=true)(h:Qgj l=true):∀ s∈Qa8 w l,s.size=w.toNat:=by
 intro s hs
 obtain⟨e,he,rfl⟩:=List.mem_map.1 hs
 exact Qvb hw ((Qgb h).2 e he)
theorem Qjk{w:Int}{l:List Qab}(hw:inR w 1 32=true)(h:Qdx l=true):∀ s∈Qbp w l,s.size=w.toNat:=by
 intro s hs
 obtain⟨e,he,rfl⟩:=List.mem_map.1 hs
 exact Qw9 hw ((Qe0 h).2 e he)
section
variable {α : Type} {nd : α → α → α} {e : α} {P : α → Prop}
theorem Qvq(n:Nat)(v:α):Qd1 nd n [] v=[v]:=by
 unfold Qd1
 cases n <;> rfl
theorem Qyc(hnd:∀ a b,P a->P b->P (nd a b)):∀(n:Nat) (s:List α) (v:α),(∀ x∈s,P x)->P v->∀ x∈Qd1 nd n s v,P x:=by
 intro n
 induction n using Nat.strongRecOn with
 | _ n ih=>
   intro s v hs hv
   rcases Nat.mod_two_eq_zero_or_one n with h|h
   · rw[Qe6 nd h]
     intro x hx
     rcases List.mem_cons.1 hx with rfl|hx
     · exact hv
     · exact hs x hx
   · match s,hs with
     | [],_=>
       rw[Qvq]
       intro x hx
       obtain rfl:=List.mem_singleton.1 hx
       exact hv
     | p :: r,hs=>
       rw[Qhb nd h]
       exact ih (n / 2) (by omega) r _ (fun x hx=>hs x (by simp[hx])) (hnd _ _ (hs p (by simp)) hv)
theorem Qg7(hnd:∀ a b,P a->P b->P (nd a b)):∀(r:List α) (n:Nat) (s:List α),(∀ x∈s,P x)->(∀ x∈r,P x)->∀ x∈Qcj nd n s r,P x
 | [],n,s,hs,_=>hs
 | y :: r,n,s,hs,hr=>by
   rw[Qi4]
   exact Qg7 hnd r _ _ (Qyc hnd n s y hs (hr y (by simp))) (fun x hx=>hr x (by simp[hx]))
theorem Qxf(hnd:∀ a b,P a->P b->P (nd a b))(l:List α)(h:∀ x∈l,P x):∀ x∈Qbt nd l,P x:=Qg7 hnd l 0 [] (by simp) h
theorem Qll(L:List α){a b:Nat}(hab:a<=b)(hb:b<=L.length):Qcj nd a (Qbt nd (L.take a)) ((L.drop a).take (b-a))=Qbt nd (L.take b):=by
 have e1:L.take b=L.take a++(L.drop a).take (b-a):=by
  rw[show b=a+(b-a) by omega,List.take_add,show a+(b-a)-a=b-a by omega]
 rw[e1,Qrj,List.length_take,Nat.min_eq_left (by omega)]
end
theorem pc_pos:∀ {n:Nat},0<n->0<pc n:=by
 intro n
 induction n using Nat.strongRecOn with
 | _ n ih=>
   intro h
   rw[Qgu]
   rcases Nat.mod_two_eq_zero_or_one n with h1|h1
   · have:=ih (n / 2) (by omega) (by omega);omega
   · omega
theorem Qxh{m:Nat}:pc m+1>pc (m+1)↔m % 2=1:=by
 rcases Nat.mod_two_eq_zero_or_one m with h|h
 · rw[Qqa h];omega
 · obtain⟨h1,h2⟩:=Qpf h
   have:=pc_next (m / 2)
   rw[h1,h2];omega
def WdT (w:Int) (s:ByteArray):Prop:=s.size=w.toNat
theorem Qkh{w:Int}(hw:inR w 1 32=true):∀ a b,WdT w a->WdT w b->WdT w (ndB w a b):=by
 intro a b ha hb
 unfold WdT at *
 have hw2:=Qa0 hw
 refine Qph hw ?_
 rw[ByteArray.size_append,ha,hb];omega
theorem Qkf{w:Int}(hw:inR w 1 32=true){l:List ByteArray}(h:∀ x∈l,WdT w x):∀ x∈Qbt (ndB w) l,WdT w x:=Qxf (Qkh hw) l h
def Qkb (w:Int) (r:Qfq):ByteArray:=Qjr (ndB w) (Qcg w) r.peaks.reverse
def Qck (w:Int) (r:Qfq):Bool:=inR r.size 0 512&&decide (r.peaks.length=pc r.size.toNat)&&(Qdy w r.peaks&&inR w 1 32)
def Qh2 (w:Int) (s:Qlb):Bool:=Qck w s.leaves&&Qck w s.taken&&Qbc w s.head&&(s.head.size==s.leaves.size)&&(s.head.root.toList==(Qkb w s.leaves).toList)&&(s.head.taken==s.taken.size)&&(s.head.takenRoot.toList==(Qkb w s.taken).toList)
theorem Qiv{w:Int}(hw:inR w 1 32=true){l:List ByteArray}(hl:l.length<=512)(h:∀ x∈l,WdT w x):Qck w (Qbi w l)=true:=by
 have hw2:=Qa0 hw
 have h1:=Qkf hw h
 simp only[Qck,Qbi,hw,Bool.and_true,Bool.and_eq_true,decide_eq_true_eq,Qdy,List.all_eq_true,List.mem_reverse,beq_iff_eq,List.length_reverse,Qeq,Int.toNat_natCast]
 refine⟨⟨by simp[inR];omega,trivial⟩,fun x hx=>?_⟩
 have:=h1 x hx
 unfold WdT at this
 omega
theorem Qfi{w:Int}(l:List ByteArray):Qkb w (Qbi w l)=Qff w l:=by
 unfold Qkb Qbi Qff
 rw[List.reverse_reverse]
 exact Qlm _ _ l
theorem seal_of{w:Int}{L T:List ByteArray}{h:Qak}(hw:inR w 1 32=true)(hL:∀ x∈L,WdT w x)(hT:∀ x∈T,WdT w x)(hok:Qbc w h=true)(h1:h.size<=L.length)(h2:h.taken<=T.length)(h3:h.root=Qff w (L.take h.size.toNat))(h4:h.takenRoot=Qff w (T.take h.taken.toNat)):Qh2 w (Qbx w L T h)=true:=by
 have hk:=hok
 simp only[Qbc,Qfg,Bool.and_eq_true] at hk
 have r1:=Qa0 hk.1.2.1.1
 have r2:=Qa0 hk.2.1.1
 have t1:(L.take h.size.toNat).length=h.size.toNat:=by rw[List.length_take];omega
 have t2:(T.take h.taken.toNat).length=h.taken.toNat:=by rw[List.length_take];omega
 simp only[Qh2,Qbx,Bool.and_eq_true,beq_iff_eq]
 refine⟨⟨⟨⟨⟨⟨Qiv hw (by omega) (fun x hx=>hL x (List.mem_of_mem_take hx)),Qiv hw (by omega) (fun x hx=>hT x (List.mem_of_mem_take hx))⟩,hok⟩,?_⟩,?_⟩,?_⟩,?_⟩
 · simp only[Qbi,t1];omega
 · rw[Qfi,<-h3]
 · simp only[Qbi,t2];omega
 · rw[Qfi,<-h4]
theorem Qfk{n:Int}{l:List Qak}{k:Nat}{h:Qak}(hd:l[k]?=some h)(ha:Qeh n l k=true):Qbc n h=true/\h.number=(k:Int):=by
 rw[Qeh,hd] at ha
 simp only[Bool.and_eq_true,beq_iff_eq] at ha
 exact ha.1
theorem Qr0{n:Int}{l:List Qak}{j:Nat}{g h:Qak}(hg:l[j]?=some g)(hd:l[j+1]?=some h)(ha:Qeh n l (j+1)=true):g.size<=h.size/\g.taken<=h.taken:=by
 rw[Qeh,hd] at ha
 simp only[hg,Bool.and_eq_true,Qcc,decide_eq_true_eq] at ha
 exact⟨ha.2.1.1.2,ha.2.1.2⟩
theorem Qci{n:Int}{l:List Qak}(h:Qdj n l=true):inR n 1 32=true/\l.length<=400/\∀ k,k<l.length->Qeh n l k=true:=by
 simp only[Qdj,Bool.and_eq_true,decide_eq_true_eq] at h
 exact⟨h.1.1,h.1.2,Qdl.1 h.2⟩
theorem Qg5{n:Int}{h:Qak}(hok:Qbc n h=true):0<=h.size/\h.size<=512/\0<=h.taken/\h.taken<=512/\h.root.size=n.toNat/\h.takenRoot.size=n.toNat:=by
 simp only[Qbc,Qfg,Bool.and_eq_true,beq_iff_eq] at hok
 have r0:=Qa0 hok.1.1.1
 have r1:=Qa0 hok.1.2.1.1
 have r2:=Qa0 hok.2.1.1
 have r3:=hok.1.2.1.2
 have r4:=hok.2.1.2
 omega
theorem Qgc{hs:List Qak}(h0:0<hs.length):hs[hs.length-1]?=some (Qaw hs):=by
 unfold Qaw
 rw[List.getLastD_eq_getLast?,List.getLast?_eq_getElem?]
 rw[List.getElem?_eq_getElem (by omega)];rfl
theorem Qtl(b:Qad)(h:Qbu b=true) :
 (Qh2 b.width b.sealed&&b.sealed.head.eqb (Qaw b.heads)&&Qcb b.sealed.leaves (Qbi b.width ((Qa8 b.width b.log.entries).take (Qaw b.heads).size.toNat))&&Qcb b.sealed.taken (Qbi b.width ((Qbp b.width b.receipts).take (Qaw b.heads).taken.toNat)))=Qar b:=by
 have hp:=h
 simp only[Qbu,Bool.and_eq_true,decide_eq_true_eq] at h
 obtain⟨⟨⟨⟨⟨⟨⟨hw,hlog⟩,hrec⟩,h0⟩,hh⟩,hz0⟩,hsl⟩,hrd⟩:=h
 obtain⟨_,_,hall⟩:=Qci hh
 have hl:=Qgc h0
 obtain⟨ok,_⟩:=Qfk hl (hall _ (by omega))
 have sl:=Qdl.1 hsl (b.heads.length-1) (by omega)
 rw[Qc0,hl] at sl
 simp only[Bool.and_eq_true,decide_eq_true_eq,beq_iff_eq,Qfm] at sl
 obtain⟨⟨⟨q1,q2⟩,q3⟩,q4⟩:=sl
 have so:=seal_of hw (Qib hw hlog) (Qjk hw hrec) ok q1 q2 q3 q4
 rw[Qar,hp,Bool.true_and,Bool.eq_iff_iff,Qfv]
 simp only[Bool.and_eq_true,Qjd,Qak.eqb_iff]
 refine⟨fun⟨⟨⟨k0,k1⟩,k2⟩,k3⟩=>?_,fun k=>?_⟩
 · unfold Qbx
   rw[<-k1,k1,<-k2,<-k3,<-k1]
 · rw[<-k]
   exact⟨⟨⟨so,rfl⟩,rfl⟩,rfl⟩
def Qa5 (w:Int) (L T:List ByteArray) (hs:List Qak):Nat->Qlb
 | 0=>⟨⟨0,[]⟩,⟨0,[]⟩,newH true w⟩
 | j+1=>match hs[j]? with
   | some h=>Qbx w L T h
   | none=>⟨⟨0,[]⟩,⟨0,[]⟩,newH true w⟩
theorem Qep{w:Int}{L T:List ByteArray}{hs:List Qak}{j:Nat}{g:Qak}(hg:hs[j]?=some g):Qa5 w L T hs (j+1)=Qbx w L T g:=by rw[Qa5,hg]
def Qxq (w:Int) (s:Qlb) (a b:List ByteArray):Qlb:=
 let x:Qfq:=⟨s.leaves.size+a.length,(Qcj (ndB w) s.leaves.size.toNat s.leaves.peaks.reverse a).reverse⟩
 let y:Qfq:=⟨s.taken.size+b.length,(Qcj (ndB w) s.taken.size.toNat s.taken.peaks.reverse b).reverse⟩
 ⟨x,y,⟨s.head.number+1,x.size,Qkb w x,y.size,Qkb w y⟩⟩
theorem moreS_of{w:Int}{L T:List ByteArray}{g h:Qak}(g1:0<=g.size)(g2:0<=g.taken)(h1:g.size<=h.size)(h2:g.taken<=h.taken)(h3:h.size<=L.length)(h4:h.taken<=T.length)(hn:h.number=g.number+1) :
 Qxq w (Qbx w L T g) ((L.drop g.size.toNat).take (h.size.toNat-g.size.toNat)) ((T.drop g.taken.toNat).take (h.taken.toNat-g.taken.toNat)) =
 ⟨Qbi w (L.take h.size.toNat),Qbi w (T.take h.taken.toNat),⟨h.number,h.size,Qff w (L.take h.size.toNat),h.taken,Qff w (T.take h.taken.toNat)⟩⟩:=by
 have t1:(L.take g.size.toNat).length=g.size.toNat:=by rw[List.length_take];omega
 have t2:(T.take g.taken.toNat).length=g.taken.toNat:=by rw[List.length_take];omega
 have e1:=Qll (nd:=ndB w) L (a:=g.size.toNat) (b:=h.size.toNat) (by omega) (by omega)
 have e2:=Qll (nd:=ndB w) T (a:=g.taken.toNat) (b:=h.taken.toNat) (by omega) (by omega)
 have u1:(L.take h.size.toNat).length=h.size.toNat:=by rw[List.length_take];omega
 have u2:(T.take h.taken.toNat).length=h.taken.toNat:=by rw[List.length_take];omega
 have v1:(((L.drop g.size.toNat).take (h.size.toNat-g.size.toNat)).length:Int)=h.size-g.size:=by rw[List.length_take,List.length_drop];omega
 have v2:(((T.drop g.taken.toNat).take (h.taken.toNat-g.taken.toNat)).length:Int)=h.taken-g.taken:=by rw[List.length_take,List.length_drop];omega
 have x1:(⟨(Qbi w (L.take g.size.toNat)).size+((L.drop g.size.toNat).take (h.size.toNat-g.size.toNat)).length,(Qcj (ndB w) (Qbi w (L.take g.size.toNat)).size.toNat (Qbi w (L.take g.size.toNat)).peaks.reverse ((L.drop g.size.toNat).take (h.size.toNat-g.size.toNat))).reverse⟩:Qfq)=Qbi w (L.take h.size.toNat):=by
  simp only[Qbi,t1,u1,v1,List.reverse_reverse,Int.toNat_natCast,e1,Qfq.mk.injEq,and_true]
  omega
 have x2:(⟨(Qbi w (T.take g.taken.toNat)).size+((T.drop g.taken.toNat).take (h.taken.toNat-g.taken.toNat)).length,(Qcj (ndB w) (Qbi w (T.take g.taken.toNat)).size.toNat (Qbi w (T.take g.taken.toNat)).peaks.reverse ((T.drop g.taken.toNat).take (h.taken.toNat-g.taken.toNat))).reverse⟩:Qfq)=Qbi w (T.take h.taken.toNat):=by
  simp only[Qbi,t2,u2,v2,List.reverse_reverse,Int.toNat_natCast,e2,Qfq.mk.injEq,and_true]
  omega
 unfold Qxq Qbx
 simp only[x1,x2,Qfi,<-hn]
 have y1:(Qbi w (L.take g.size.toNat)).size+(((L.drop g.size.toNat).take (h.size.toNat-g.size.toNat)).length:Int)=h.size:=by simp only[Qbi,t1,v1];omega
 have y2:(Qbi w (T.take g.taken.toNat)).size+(((T.drop g.taken.toNat).take (h.taken.toNat-g.taken.toNat)).length:Int)=h.taken:=by simp only[Qbi,t2,v2];omega
 rw[y1,y2]
theorem Qux{w:Int}{L T:List ByteArray}{hs:List Qak}{j:Nat}{g h:Qak}(hok:Qdj w hs=true)(hg:hs[j]?=some g)(hd:hs[j+1]?=some h)(h3:h.size<=L.length)(h4:h.taken<=T.length) :
 let s:=Qxq w (Qa5 w L T hs (j+1)) ((L.drop g.size.toNat).take (h.size.toNat-g.size.toNat)) ((T.drop g.taken.toNat).take (h.taken.toNat-g.taken.toNat))
 s.head.eqb h=Qc0 w L T hs (j+1)/\(s.head.eqb h=true->s=Qa5 w L T hs (j+2)):=by
 obtain⟨_,_,hall⟩:=Qci hok
 have a1:=Qfk hg (hall _ (List.getElem?_eq_some_iff.1 hg).1)
 have a2:=Qfk hd (hall _ (List.getElem?_eq_some_iff.1 hd).1)
 have a3:=Qr0 hg hd (hall _ (List.getElem?_eq_some_iff.1 hd).1)
 have a4:=Qg5 a1.1
 have hm:=moreS_of (w:=w) (L:=L) (T:=T) (g:=g) (h:=h) a4.1 a4.2.2.1 a3.1 a3.2 h3 h4 (by rw[a1.2,a2.2];omega)
 simp only
 rw[Qep hg,hm,Qc0,hd]
 have e:Qak.eqb ⟨h.number,h.size,Qff w (L.take h.size.toNat),h.taken,Qff w (T.take h.taken.toNat)⟩ h=(decide (h.size<=L.length)&&decide (h.taken<=T.length)&&(h.root.toList==(Qff w (L.take h.size.toNat)).toList)&&(h.takenRoot.toList==(Qff w (T.take h.taken.toNat)).toList)):=by
  rw[Bool.eq_iff_iff,Qak.eqb_iff]
  simp only[Bool.and_eq_true,decide_eq_true_eq,beq_iff_eq,Qfm]
  refine⟨fun k=>?_,fun k=>?_⟩
  · rw[<-k];exact⟨⟨⟨h3,h4⟩,rfl⟩,rfl⟩
  · obtain⟨⟨_,k1⟩,k2⟩:=k
    rw[<-k1,<-k2]
 refine⟨e,fun k=>?_⟩
 have k2:(⟨h.number,h.size,Qff w (L.take h.size.toNat),h.taken,Qff w (T.take h.taken.toNat)⟩:Qak)=h:=(Qak.eqb_iff _ _).1 k
 rw[Qep hd]
 exact congrArg (fun x=>(⟨Qbi w (L.take h.size.toNat),Qbi w (T.take h.taken.toNat),x⟩:Qlb)) k2
theorem Qws{w:Int}{L T:List ByteArray}{hs:List Qak}{h:Qak}(hd:hs[0]?=some h)(he:h=newH true w):Qc0 w L T hs 0=true/\Qa5 w L T hs 1=⟨⟨0,[]⟩,⟨0,[]⟩,newH true w⟩:=by
 subst he
 refine⟨?_,?_⟩
 · rw[Qc0,hd]
   simp[Qub,Qff,Qxp]
 · rw[Qep hd]
   simp[Qbx,Qub,Qbi,Qbt]
def brkV (b:Qad) (A0:Option Addr) (c0:Nat) (A1:Option Addr) (c1:Nat) (A2:Option Addr) (c2:Nat) (A3:Option Addr) (c3:Nat) (A4:Option Addr) (c4:Nat):List Value:=
 [.int .i64 b.width,.slice A0 b.log.entries.length c0,.slice A1 b.receipts.length c1,.slice A2 b.heads.length c2,.int .i64 b.sealed.leaves.size,.slice A3 b.sealed.leaves.peaks.length c3,.int .i64 b.sealed.taken.size,.slice A4 b.sealed.taken.peaks.length c4,.int .i64 b.sealed.head.number,.int .i64 b.sealed.head.size,.string b.sealed.head.root,.int .i64 b.sealed.head.taken,.string b.sealed.head.takenRoot]
theorem Qqw(b:Qad):Qar b=(Qbu b&&Qf9 (Qbx b.width (Qa8 b.width b.log.entries) (Qbp b.width b.receipts) (Qaw b.heads)) b.sealed):=rfl
theorem Qrf{b:Qad}(h:Qbu b=true):(Qbx b.width (Qa8 b.width b.log.entries) (Qbp b.width b.receipts) (Qaw b.heads)).leaves.peaks.length<=1048576/\(Qbx b.width (Qa8 b.width b.log.entries) (Qbp b.width b.receipts) (Qaw b.heads)).taken.peaks.length<=1048576:=by
 simp only[Qbu,Bool.and_eq_true] at h
 have h1:=(Qgb h.1.1.1.1.1.1.2).1
 have h2:=(Qe0 h.1.1.1.1.1.2).1
 simp only[Qbx,Qbi,List.length_reverse,Qeq]
 have a1:=Qh9 ((Qa8 b.width b.log.entries).take (Qaw b.heads).size.toNat).length
 have a2:=Qh9 ((Qbp b.width b.receipts).take (Qaw b.heads).taken.toNat).length
 rw[List.length_take,Qa8,List.length_map] at a1
 rw[List.length_take,Qbp,List.length_map] at a2
 have b1:=Nat.min_le_right (Qaw b.heads).size.toNat b.log.entries.length
 have b2:=Nat.min_le_right (Qaw b.heads).taken.toNat b.receipts.length
 rw[List.length_take,List.length_take,Qa8,Qbp,List.length_map,List.length_map]
 omega
end Go.Proofs.YtbnkjgcpjeedfaaGreat
