/-
  The table of the functions' code.
  Conditions: none.
-/
import Derived.Test.YtigbjjkijfkeeaaOW01
import Derived.Test.YtigbjjkijfkeeaaOW05
import Derived.KernelRfl
import Derived.Deep.Slices
import Derived.OpenShut
import Derived.ProofKit
import Derived.Test.YtigbjjkijfkeeaaRows
set_option maxRecDepth 100000
set_option maxHeartbeats 4000000
set_option linter.unusedSimpArgs false
set_option linter.unusedVariables false
namespace Go.Vi
open Go.Proofs.Ytigbjjkijfkeeaa.Ir
open Go.Proofs
structure Ent where
 f:FuncId
 F:IFn
 fn:Func
 H:List RH
def lookF (f:FuncId):List Ent→Option IFn
 |[]=>none
 |e::r=>bif Nat.beq e.f f then some e.F else lookF f r
theorem lookF_mem {f:FuncId} {F:IFn}:∀{l:List Ent},lookF f l=some F→∃e∈l,e.f=f∧e.F=F
 |[],h=>by cases h
 |e::r,h=>by
  simp only[lookF] at h
  cases hq:Nat.beq e.f f with
  |true=>
   rw[hq] at h
   simp only[cond_true,Option.some.injEq] at h
   exact⟨e,by simp,Nat.eq_of_beq_eq_true hq,h⟩
  |false=>
   rw[hq] at h
   simp only[cond_false] at h
   obtain⟨e',h1,h2⟩:=lookF_mem h
   exact⟨e',by simp[h1],h2⟩
def GoodE (P:Program) (e:Ent):Prop:=P.funcs[e.f]?=some e.fn∧compFn P e.H e.fn=some e.F∧goodF P e.f=true
theorem tab0_ok {P:Program} {l:List Ent} (h:∀e∈l,GoodE P e):TabOK P ⟨fun f=>lookF f l,fun _ _ _ _=>none⟩ where
 fn:=fun f F hF=>by
  obtain⟨e,h1,rfl,rfl⟩:=lookF_mem hF
  obtain⟨h2,h3,h4⟩:=h e h1
  exact⟨e.fn,e.H,h2,h3,h4⟩
 K:=fun _ _ _ _ _ _ h=>by cases h
theorem ge14:GoodE Try.prog ⟨14,F14,Try.f14,h14⟩:=⟨by kernel_rfl,is14,by kernel_rfl⟩
theorem ge24:GoodE Try.prog ⟨24,F24,Try.f24,h24⟩:=⟨by kernel_rfl,is24,by kernel_rfl⟩
theorem ge38:GoodE Try.prog ⟨38,F38,Try.f38,h38⟩:=⟨by kernel_rfl,is38,by kernel_rfl⟩
theorem ge39:GoodE Try.prog ⟨39,F39,Try.f39,h39⟩:=⟨by kernel_rfl,is39,by kernel_rfl⟩
theorem ge40:GoodE Try.prog ⟨40,F40,Try.f40,h40⟩:=⟨by kernel_rfl,is40,by kernel_rfl⟩
theorem ge42:GoodE Try.prog ⟨42,F42,Try.f42,h42⟩:=⟨by kernel_rfl,is42,by kernel_rfl⟩
theorem ge44:GoodE Try.prog ⟨44,F44,Try.f44,h44⟩:=⟨by kernel_rfl,is44,by kernel_rfl⟩
theorem ge46:GoodE Try.prog ⟨46,F46,Try.f46,h46⟩:=⟨by kernel_rfl,is46,by kernel_rfl⟩
theorem ge47:GoodE Try.prog ⟨47,F47,Try.f47,h47⟩:=⟨by kernel_rfl,is47,by kernel_rfl⟩
theorem ge49:GoodE Try.prog ⟨49,F49,Try.f49,h49⟩:=⟨by kernel_rfl,is49,by kernel_rfl⟩
theorem ge51:GoodE Try.prog ⟨51,F51,Try.f51,h51⟩:=⟨by kernel_rfl,is51,by kernel_rfl⟩
theorem ge54:GoodE Try.prog ⟨54,F54,Try.f54,h54⟩:=⟨by kernel_rfl,is54,by kernel_rfl⟩
theorem ge55:GoodE Try.prog ⟨55,F55,Try.f55,h55⟩:=⟨by kernel_rfl,is55,by kernel_rfl⟩
theorem ge56:GoodE Try.prog ⟨56,F56,Try.f56,h56⟩:=⟨by kernel_rfl,is56,by kernel_rfl⟩
theorem ge57:GoodE Try.prog ⟨57,F57,Try.f57,h57⟩:=⟨by kernel_rfl,is57,by kernel_rfl⟩
theorem ge58:GoodE Try.prog ⟨58,F58,Try.f58,h58⟩:=⟨by kernel_rfl,is58,by kernel_rfl⟩
theorem ge68:GoodE Try.prog ⟨68,F68,Try.f68,h68⟩:=⟨by kernel_rfl,is68,by kernel_rfl⟩
theorem ge69:GoodE Try.prog ⟨69,F69,Try.f69,h69⟩:=⟨by kernel_rfl,is69,by kernel_rfl⟩
theorem ge79:GoodE Try.prog ⟨79,F79,Try.f79,h79⟩:=⟨by kernel_rfl,is79,by kernel_rfl⟩
theorem ge86:GoodE Try.prog ⟨86,F86,Try.f86,h86⟩:=⟨by kernel_rfl,is86,by kernel_rfl⟩
theorem ge87:GoodE Try.prog ⟨87,F87,Try.f87,h87⟩:=⟨by kernel_rfl,is87,by kernel_rfl⟩
theorem ge88:GoodE Try.prog ⟨88,F88,Try.f88,h88⟩:=⟨by kernel_rfl,is88,by kernel_rfl⟩
theorem ge94:GoodE Try.prog ⟨94,F94,Try.f94,h94⟩:=⟨by kernel_rfl,is94,by kernel_rfl⟩
theorem ge95:GoodE Try.prog ⟨95,F95,Try.f95,h95⟩:=⟨by kernel_rfl,is95,by kernel_rfl⟩
theorem ge96:GoodE Try.prog ⟨96,F96,Try.f96,h96⟩:=⟨by kernel_rfl,is96,by kernel_rfl⟩
theorem ge97:GoodE Try.prog ⟨97,F97,Try.f97,h97⟩:=⟨by kernel_rfl,is97,by kernel_rfl⟩
theorem ge99:GoodE Try.prog ⟨99,F99,Try.f99,h99⟩:=⟨by kernel_rfl,is99,by kernel_rfl⟩
theorem ge100:GoodE Try.prog ⟨100,F100,Try.f100,h100⟩:=⟨by kernel_rfl,is100,by kernel_rfl⟩
theorem ge101:GoodE Try.prog ⟨101,F101,Try.f101,h101⟩:=⟨by kernel_rfl,is101,by kernel_rfl⟩
theorem ge103:GoodE Try.prog ⟨103,F103,Try.f103,h103⟩:=⟨by kernel_rfl,is103,by kernel_rfl⟩
theorem ge105:GoodE Try.prog ⟨105,F105,Try.f105,h105⟩:=⟨by kernel_rfl,is105,by kernel_rfl⟩
theorem ge106:GoodE Try.prog ⟨106,F106,Try.f106,h106⟩:=⟨by kernel_rfl,is106,by kernel_rfl⟩
theorem ge107:GoodE Try.prog ⟨107,F107,Try.f107,h107⟩:=⟨by kernel_rfl,is107,by kernel_rfl⟩
theorem ge109:GoodE Try.prog ⟨109,F109,Try.f109,h109⟩:=⟨by kernel_rfl,is109,by kernel_rfl⟩
theorem ge110:GoodE Try.prog ⟨110,F110,Try.f110,h110⟩:=⟨by kernel_rfl,is110,by kernel_rfl⟩
theorem ge112:GoodE Try.prog ⟨112,F112,Try.f112,h112⟩:=⟨by kernel_rfl,is112,by kernel_rfl⟩
theorem ge113:GoodE Try.prog ⟨113,F113,Try.f113,h113⟩:=⟨by kernel_rfl,is113,by kernel_rfl⟩
theorem ge114:GoodE Try.prog ⟨114,F114,Try.f114,h114⟩:=⟨by kernel_rfl,is114,by kernel_rfl⟩
theorem ge115:GoodE Try.prog ⟨115,F115,Try.f115,h115⟩:=⟨by kernel_rfl,is115,by kernel_rfl⟩
theorem ge116:GoodE Try.prog ⟨116,F116,Try.f116,h116⟩:=⟨by kernel_rfl,is116,by kernel_rfl⟩
theorem ge118:GoodE Try.prog ⟨118,F118,Try.f118,h118⟩:=⟨by kernel_rfl,is118,by kernel_rfl⟩
theorem ge119:GoodE Try.prog ⟨119,F119,Try.f119,h119⟩:=⟨by kernel_rfl,is119,by kernel_rfl⟩
theorem ge121:GoodE Try.prog ⟨121,F121,Try.f121,h121⟩:=⟨by kernel_rfl,is121,by kernel_rfl⟩
theorem ge122:GoodE Try.prog ⟨122,F122,Try.f122,h122⟩:=⟨by kernel_rfl,is122,by kernel_rfl⟩
theorem ge125:GoodE Try.prog ⟨125,F125,Try.f125,h125⟩:=⟨by kernel_rfl,is125,by kernel_rfl⟩
theorem ge126:GoodE Try.prog ⟨126,F126,Try.f126,h126⟩:=⟨by kernel_rfl,is126,by kernel_rfl⟩
theorem ge127:GoodE Try.prog ⟨127,F127,Try.f127,h127⟩:=⟨by kernel_rfl,is127,by kernel_rfl⟩
theorem ge128:GoodE Try.prog ⟨128,F128,Try.f128,h128⟩:=⟨by kernel_rfl,is128,by kernel_rfl⟩
theorem ge129:GoodE Try.prog ⟨129,F129,Try.f129,h129⟩:=⟨by kernel_rfl,is129,by kernel_rfl⟩
theorem ge130:GoodE Try.prog ⟨130,F130,Try.f130,h130⟩:=⟨by kernel_rfl,is130,by kernel_rfl⟩
theorem ge131:GoodE Try.prog ⟨131,F131,Try.f131,h131⟩:=⟨by kernel_rfl,is131,by kernel_rfl⟩
theorem ge132:GoodE Try.prog ⟨132,F132,Try.f132,h132⟩:=⟨by kernel_rfl,is132,by kernel_rfl⟩
theorem ge133:GoodE Try.prog ⟨133,F133,Try.f133,h133⟩:=⟨by kernel_rfl,is133,by kernel_rfl⟩
theorem ge134:GoodE Try.prog ⟨134,F134,Try.f134,h134⟩:=⟨by kernel_rfl,is134,by kernel_rfl⟩
theorem ge135:GoodE Try.prog ⟨135,F135,Try.f135,h135⟩:=⟨by kernel_rfl,is135,by kernel_rfl⟩
theorem ge138:GoodE Try.prog ⟨138,F138,Try.f138,h138⟩:=⟨by kernel_rfl,is138,by kernel_rfl⟩
theorem ge139:GoodE Try.prog ⟨139,F139,Try.f139,h139⟩:=⟨by kernel_rfl,is139,by kernel_rfl⟩
theorem ge140:GoodE Try.prog ⟨140,F140,Try.f140,h140⟩:=⟨by kernel_rfl,is140,by kernel_rfl⟩
theorem ge141:GoodE Try.prog ⟨141,F141,Try.f141,h141⟩:=⟨by kernel_rfl,is141,by kernel_rfl⟩
theorem ge143:GoodE Try.prog ⟨143,F143,Try.f143,h143⟩:=⟨by kernel_rfl,is143,by kernel_rfl⟩
theorem ge144:GoodE Try.prog ⟨144,F144,Try.f144,h144⟩:=⟨by kernel_rfl,is144,by kernel_rfl⟩
theorem ge145:GoodE Try.prog ⟨145,F145,Try.f145,h145⟩:=⟨by kernel_rfl,is145,by kernel_rfl⟩
theorem ge146:GoodE Try.prog ⟨146,F146,Try.f146,h146⟩:=⟨by kernel_rfl,is146,by kernel_rfl⟩
theorem ge147:GoodE Try.prog ⟨147,F147,Try.f147,h147⟩:=⟨by kernel_rfl,is147,by kernel_rfl⟩
theorem ge151:GoodE Try.prog ⟨151,F151,Try.f151,h151⟩:=⟨by kernel_rfl,is151,by kernel_rfl⟩
theorem ge152:GoodE Try.prog ⟨152,F152,Try.f152,h152⟩:=⟨by kernel_rfl,is152,by kernel_rfl⟩
theorem ge153:GoodE Try.prog ⟨153,F153,Try.f153,h153⟩:=⟨by kernel_rfl,is153,by kernel_rfl⟩
theorem ge154:GoodE Try.prog ⟨154,F154,Try.f154,h154⟩:=⟨by kernel_rfl,is154,by kernel_rfl⟩
theorem ge155:GoodE Try.prog ⟨155,F155,Try.f155,h155⟩:=⟨by kernel_rfl,is155,by kernel_rfl⟩
theorem ge156:GoodE Try.prog ⟨156,F156,Try.f156,h156⟩:=⟨by kernel_rfl,is156,by kernel_rfl⟩
theorem ge157:GoodE Try.prog ⟨157,F157,Try.f157,h157⟩:=⟨by kernel_rfl,is157,by kernel_rfl⟩
theorem ge158:GoodE Try.prog ⟨158,F158,Try.f158,h158⟩:=⟨by kernel_rfl,is158,by kernel_rfl⟩
theorem ge159:GoodE Try.prog ⟨159,F159,Try.f159,h159⟩:=⟨by kernel_rfl,is159,by kernel_rfl⟩
theorem ge160:GoodE Try.prog ⟨160,F160,Try.f160,h160⟩:=⟨by kernel_rfl,is160,by kernel_rfl⟩
theorem ge161:GoodE Try.prog ⟨161,F161,Try.f161,h161⟩:=⟨by kernel_rfl,is161,by kernel_rfl⟩
theorem ge162:GoodE Try.prog ⟨162,F162,Try.f162,h162⟩:=⟨by kernel_rfl,is162,by kernel_rfl⟩
theorem ge163:GoodE Try.prog ⟨163,F163,Try.f163,h163⟩:=⟨by kernel_rfl,is163,by kernel_rfl⟩
theorem ge165:GoodE Try.prog ⟨165,F165,Try.f165,h165⟩:=⟨by kernel_rfl,is165,by kernel_rfl⟩
theorem ge166:GoodE Try.prog ⟨166,F166,Try.f166,h166⟩:=⟨by kernel_rfl,is166,by kernel_rfl⟩
theorem ge167:GoodE Try.prog ⟨167,F167,Try.f167,h167⟩:=⟨by kernel_rfl,is167,by kernel_rfl⟩
theorem ge168:GoodE Try.prog ⟨168,F168,Try.f168,h168⟩:=⟨by kernel_rfl,is168,by kernel_rfl⟩
theorem ge169:GoodE Try.prog ⟨169,F169,Try.f169,h169⟩:=⟨by kernel_rfl,is169,by kernel_rfl⟩
noncomputable def entL:List Ent:=[⟨14,F14,Try.f14,h14⟩,⟨24,F24,Try.f24,h24⟩,⟨38,F38,Try.f38,h38⟩,⟨39,F39,Try.f39,h39⟩,⟨40,F40,Try.f40,h40⟩,⟨42,F42,Try.f42,h42⟩,⟨44,F44,Try.f44,h44⟩,⟨46,F46,Try.f46,h46⟩,⟨47,F47,Try.f47,h47⟩,⟨49,F49,Try.f49,h49⟩,⟨51,F51,Try.f51,h51⟩,⟨54,F54,Try.f54,h54⟩,⟨55,F55,Try.f55,h55⟩,⟨56,F56,Try.f56,h56⟩,⟨57,F57,Try.f57,h57⟩,⟨58,F58,Try.f58,h58⟩,⟨68,F68,Try.f68,h68⟩,⟨69,F69,Try.f69,h69⟩,⟨79,F79,Try.f79,h79⟩,⟨86,F86,Try.f86,h86⟩,⟨87,F87,Try.f87,h87⟩,⟨88,F88,Try.f88,h88⟩,⟨94,F94,Try.f94,h94⟩,⟨95,F95,Try.f95,h95⟩,⟨96,F96,Try.f96,h96⟩,⟨97,F97,Try.f97,h97⟩,⟨99,F99,Try.f99,h99⟩,⟨100,F100,Try.f100,h100⟩,⟨101,F101,Try.f101,h101⟩,⟨103,F103,Try.f103,h103⟩,⟨105,F105,Try.f105,h105⟩,⟨106,F106,Try.f106,h106⟩,⟨107,F107,Try.f107,h107⟩,⟨109,F109,Try.f109,h109⟩,⟨110,F110,Try.f110,h110⟩,⟨112,F112,Try.f112,h112⟩,⟨113,F113,Try.f113,h113⟩,⟨114,F114,Try.f114,h114⟩,⟨115,F115,Try.f115,h115⟩,⟨116,F116,Try.f116,h116⟩,⟨118,F118,Try.f118,h118⟩,⟨119,F119,Try.f119,h119⟩,⟨121,F121,Try.f121,h121⟩,⟨122,F122,Try.f122,h122⟩,⟨125,F125,Try.f125,h125⟩,⟨126,F126,Try.f126,h126⟩,⟨127,F127,Try.f127,h127⟩,⟨128,F128,Try.f128,h128⟩,⟨129,F129,Try.f129,h129⟩,⟨130,F130,Try.f130,h130⟩,⟨131,F131,Try.f131,h131⟩,⟨132,F132,Try.f132,h132⟩,⟨133,F133,Try.f133,h133⟩,⟨134,F134,Try.f134,h134⟩,⟨135,F135,Try.f135,h135⟩,⟨138,F138,Try.f138,h138⟩,⟨139,F139,Try.f139,h139⟩,⟨140,F140,Try.f140,h140⟩,⟨141,F141,Try.f141,h141⟩,⟨143,F143,Try.f143,h143⟩,⟨144,F144,Try.f144,h144⟩,⟨145,F145,Try.f145,h145⟩,⟨146,F146,Try.f146,h146⟩,⟨147,F147,Try.f147,h147⟩,⟨151,F151,Try.f151,h151⟩,⟨152,F152,Try.f152,h152⟩,⟨153,F153,Try.f153,h153⟩,⟨154,F154,Try.f154,h154⟩,⟨155,F155,Try.f155,h155⟩,⟨156,F156,Try.f156,h156⟩,⟨157,F157,Try.f157,h157⟩,⟨158,F158,Try.f158,h158⟩,⟨159,F159,Try.f159,h159⟩,⟨160,F160,Try.f160,h160⟩,⟨161,F161,Try.f161,h161⟩,⟨162,F162,Try.f162,h162⟩,⟨163,F163,Try.f163,h163⟩,⟨165,F165,Try.f165,h165⟩,⟨166,F166,Try.f166,h166⟩,⟨167,F167,Try.f167,h167⟩,⟨168,F168,Try.f168,h168⟩,⟨169,F169,Try.f169,h169⟩]
theorem entL_ok:∀e∈entL,GoodE Try.prog e:=by
 unfold entL
 simp only[List.mem_cons,List.not_mem_nil,or_false]
 rintro e (rfl|rfl|rfl|rfl|rfl|rfl|rfl|rfl|rfl|rfl|rfl|rfl|rfl|rfl|rfl|rfl|rfl|rfl|rfl|rfl|rfl|rfl|rfl|rfl|rfl|rfl|rfl|rfl|rfl|rfl|rfl|rfl|rfl|rfl|rfl|rfl|rfl|rfl|rfl|rfl|rfl|rfl|rfl|rfl|rfl|rfl|rfl|rfl|rfl|rfl|rfl|rfl|rfl|rfl|rfl|rfl|rfl|rfl|rfl|rfl|rfl|rfl|rfl|rfl|rfl|rfl|rfl|rfl|rfl|rfl|rfl|rfl|rfl|rfl|rfl|rfl|rfl|rfl|rfl|rfl|rfl|rfl)
 ·exact ge14
 ·exact ge24
 ·exact ge38
 ·exact ge39
 ·exact ge40
 ·exact ge42
 ·exact ge44
 ·exact ge46
 ·exact ge47
 ·exact ge49
 ·exact ge51
 ·exact ge54
 ·exact ge55
 ·exact ge56
 ·exact ge57
 ·exact ge58
 ·exact ge68
 ·exact ge69
 ·exact ge79
 ·exact ge86
 ·exact ge87
 ·exact ge88
 ·exact ge94
 ·exact ge95
 ·exact ge96
 ·exact ge97
 ·exact ge99
 ·exact ge100
 ·exact ge101
 ·exact ge103
 ·exact ge105
 ·exact ge106
 ·exact ge107
 ·exact ge109
 ·exact ge110
 ·exact ge112
 ·exact ge113
 ·exact ge114
 ·exact ge115
 ·exact ge116
 ·exact ge118
 ·exact ge119
 ·exact ge121
 ·exact ge122
 ·exact ge125
 ·exact ge126
 ·exact ge127
 ·exact ge128
 ·exact ge129
 ·exact ge130
 ·exact ge131
 ·exact ge132
 ·exact ge133
 ·exact ge134
 ·exact ge135
 ·exact ge138
 ·exact ge139
 ·exact ge140
 ·exact ge141
 ·exact ge143
 ·exact ge144
 ·exact ge145
 ·exact ge146
 ·exact ge147
 ·exact ge151
 ·exact ge152
 ·exact ge153
 ·exact ge154
 ·exact ge155
 ·exact ge156
 ·exact ge157
 ·exact ge158
 ·exact ge159
 ·exact ge160
 ·exact ge161
 ·exact ge162
 ·exact ge163
 ·exact ge165
 ·exact ge166
 ·exact ge167
 ·exact ge168
 ·exact ge169
noncomputable def fnN (f:FuncId):Option IFn:=lookF f entL
theorem base_ok:TabOK Try.prog ⟨fnN,fun _ _ _ _=>none⟩:=tab0_ok entL_ok
structure Vc (A:Prop):Prop where
 out:A
theorem vcOf {A:Prop} (B:Prop) (h:B=A) (hb:B):Vc A:=⟨h▸hb⟩
theorem con {L:List SCtr} {W:OwnT} (c:SCtr) (F:IFn) (Λ:c.α→Nat→LoopAnn) (hW:OwnOK Try.prog W) (hL:∀c∈L,Holds Try.prog c)
  (hF:fnN c.f=some F) (hfr:findC c.f L=none) (hlen:∀a,(c.A.put a).length=F.params)
  (h:∀a,c.dom a→Vc (fnK (parL L W tyN mtN fnN) (Λ a) F (c.A.put a) fun v=>v.same (c.res a))):Holds Try.prog c:=
 holds_of c base_ok hW hL hF hfr hlen fun a ha=>(h a ha).out
theorem conO {L:List SCtr} {W:List OCtr} (c:OCtr) (F:IFn) (Λ:c.α→Nat→LoopAnn) (hW:∀c∈W,HoldsO Try.prog c) (hL:∀c∈L,Holds Try.prog c)
  (hF:fnN c.f=some F) (hlen:∀a,(c.put a).length=F.params) (hfr:findO c.f W=none)
  (h:∀a,c.dom a→Vc (fnOwnK (parL L (ownT W) tyN mtN fnN) (Λ a) F (c.put a) (c.st a) fun v s=>v.same (c.res a)∧sameO s (c.out a))):HoldsO Try.prog c:=
 fun a ha=>holdsO_of c base_ok hW hL hF hlen a (fun d hd=>by rw[hfr] at hd;cases hd) (h a ha).out
theorem conN {L:List SCtr} {W:List OCtr} (c:OCtr) (F:IFn) (sp:Nat→Option (Nat×Nat×Nat)) (Λ:c.α→Nat→LoopAnn) (hW:∀c∈W,HoldsO Try.prog c) (hL:∀c∈L,Holds Try.prog c)
  (hF:fnN c.f=some F) (hlen:∀a,(c.put a).length=F.params) (hst:∀a,c.st a=[]) (hfr:findO c.f W=none)
  (h:∀a,c.dom a→Vc (fnNewK ⟨⟨pureK L,(ownT W).C⟩,tyN,mtN,sp,fun _=>none⟩ (Λ a) F (c.put a) fun v s=>v.same (c.res a)∧sameO s (c.out a))):HoldsO Try.prog c:=
 fun a ha=>by
  rw[hst a]
  refine fnNewK_sound (p:=⟨⟨pureK L,(ownT W).C⟩,tyN,mtN,sp,fun _=>none⟩) (Λ:=Λ a) (Q:=fun v s=>v.same (c.res a)∧sameO s (c.out a)) (tabL_ok (ownT_ok hW) hL base_ok) (tabL_calls (ownT_ok hW)) (fun _ _ h=>by cases h) hF ?_ (hlen a) (fun v s hs=>⟨hs.1,sameO_g hs.2⟩) (h a ha).out
  simp only[tabL,tabK,if_true,ownT]
  exact ownA_fresh hfr
open Go.ChangeShapes Go.WideShapes Go.RowKit
abbrev noA:Clr:=⟨fun _=>False,0⟩
instance (s:SId):Inhabited s.T:=⟨s.dflt⟩
theorem fr_nil (b:Nat):Fr noA [] b:=⟨by rintro⟨i,c,h⟩;simp at h,fun h=>h⟩
theorem repL_scs {A:Clr} {w:World} {σ:Sig} {o:Store}:∀{vs:List Value},(∀v∈vs,v.oneCell'=true)→RepL A w σ o (vs.map .sc) vs
 |[],_=>by simp[RepL]
 |v::vs,h=>by
  simp only[List.map_cons,RepL]
  exact⟨v,vs,rfl,by simp[Rep,h v (by simp)],repL_scs fun u hu=>h u (by simp[hu])⟩
theorem repM_app {A:Clr} {w:World} {σ:Sig} {o:Store}:∀{a b:List AV} {x:Option Addr} {j:Nat},RepM A w σ o a x j→RepM A w σ o b x (j+a.length)→RepM A w σ o (a++b) x j
 |[],b,x,j,_,h=>by simpa using h
 |c::a,b,x,j,h,k=>by
  simp only[List.cons_append,RepM] at h ⊢
  refine⟨h.1,repM_app h.2 ?_⟩
  rw[show j+1+a.length=j+(c::a).length from by simp;omega]
  exact k
def Reads (P:Program) (t:TypeId) (s:SId):Prop:=
 ∀(H:Type) (enc:TypeId×Value→H) (w:World) (base:Nat) (spare:Nat→Bool) (held:Bool) (fuel:Nat) (cs:List Value) (x:DataW H×List MemPlace),DataW.trod enc P w base spare held fuel t cs=some x→∃y:s.T,cs=encV s y
theorem reads_int {P:Program} {t:TypeId} {k:IntKind} (ht:P.underlying t=some (.int k)):Reads P t (.i k):=fun _ _ _ _ _ _ _ cs _ h=>by
 obtain⟨n,rfl,_,_⟩:=DataW.trod_int ht h
 exact⟨n,rfl⟩
theorem repM_sc {w:World} {a:Addr}:∀{vs:List Value} {j:Nat},(∀v∈vs,v.oneCell'=true)→(∀i v,vs[i]?=some v→w.cell? (a.add (j+i))=some v)→RepM noA w [] [] (vs.map .sc) (some a) j
 |[],_,_,_=>by simp[RepM]
 |v::vs,j,h1,h2=>by
  simp only[List.map_cons,RepM]
  refine⟨⟨a,v,rfl,fr_nil _,by simpa using h2 0 v (by simp),by simp[Rep,h1 v (by simp)]⟩,repM_sc (fun u hu=>h1 u (by simp[hu])) fun i u hu=>?_⟩
  have:=h2 (i+1) u (by simpa using hu)
  rwa [show j+1+i=j+(i+1) from by omega]
theorem cells_get {w:World} {base n:Nat} {a:Addr} {cs:List Value} (h:w.cells? base a n=some cs):cs.length=n∧∀i v,cs[i]?=some v→w.cell? (a.add i)=some v:=by
 unfold World.cells? at h
 split at h
 ·obtain⟨h1,h2⟩:=mapM_get h
  simp only[List.length_range] at h1
  refine⟨h1,fun i v hv=>?_⟩
  have hi:=(List.getElem?_eq_some_iff.1 hv).1
  obtain⟨b,hb1,hb2⟩:=h2 i i (by rw[List.getElem?_range (by omega)])
  rw[hv] at hb1
  simp only[Option.some.injEq] at hb1
  subst hb1
  exact hb2
 ·cases h
def ReadsG (P:Program) (t:TypeId) (s:SId):Prop:=
 ∀(H:Type) (enc:TypeId×Value→H) (w:World) (spare:Nat→Bool) (held:Bool) (fuel:Nat) (cs:List Value) (x:DataW H×List MemPlace),DataW.trod enc P w 0 spare held fuel t cs=some x→∃y:s.T,RepL noA w [] [] (encA s y) cs
theorem Reads.g {P:Program} {t:TypeId} {s:SId} (h:Reads P t s) (hf:s.flat=true:=by rfl):ReadsG P t s:=fun H enc w spare held fuel cs x hx=>by
 obtain⟨y,rfl⟩:=h H enc w 0 spare held fuel cs x hx
 exact⟨y,by rw[flat_encA s hf];exact repL_scs (encV_one s y)⟩
theorem repM_of {w:World} {a:Addr}:∀{cs:List AV} {vs:List Value} {j:Nat},RepL noA w [] [] cs vs→(∀i v,vs[i]?=some v→w.cell? (a.add (j+i))=some v)→RepM noA w [] [] cs (some a) j
 |[],_,_,_,_=>by simp[RepM]
 |c::cs,vs,j,h1,h2=>by
  simp only[RepL] at h1
  obtain⟨v,r,rfl,hv,hl⟩:=h1
  simp only[RepM]
  refine⟨⟨a,v,rfl,fr_nil _,by simpa using h2 0 v (by simp),hv⟩,repM_of hl fun i u hu=>?_⟩
  have:=h2 (i+1) u (by simpa using hu)
  rwa [show j+1+i=j+(i+1) from by omega]
theorem repM_flat {w:World} {a:Addr} {s:SId}:∀{l:List s.T} {i0:Nat},(∀i y,l[i]?=some y→∃cs,w.cells? 0 (a.add ((i0+i)*s.sz)) s.sz=some cs∧RepL noA w [] [] (encA s y) cs)→RepM noA w [] [] (flatA s l) (some a) (i0*s.sz)
 |[],_,_=>by simp[flatA,RepM]
 |y::l,i0,h=>by
  obtain⟨cs,h0,hr⟩:=h 0 y (by simp)
  rw[Nat.add_zero] at h0
  obtain⟨h1,h2⟩:=cells_get h0
  have e:flatA s (y::l)=encA s y++flatA s l:=by simp[flatA]
  rw[e]
  refine repM_app (repM_of hr fun i v hv=>?_) ?_
  ·have:=h2 i v hv
   rwa [add_add] at this
  ·rw[encA_len,show i0*s.sz+s.sz=(i0+1)*s.sz from by rw[Nat.succ_mul]]
   refine repM_flat fun i z hz=>?_
   have:=h (i+1) z (by simpa using hz)
   rwa [show i0+1+i=i0+(i+1) from by omega]
theorem reads_sliceG {P:Program} {t e:TypeId} {s:SId} (ht:P.underlying t=some (.slice e)) (he:ReadsG P e s) (hc:P.cellsOf e=s.sz)
  {H:Type} {enc:TypeId×Value→H} {w:World} {spare:Nat→Bool} {held:Bool} {fuel:Nat} {cs:List Value} {x:DataW H×List MemPlace} (h:DataW.trod enc P w 0 spare held fuel t cs=some x):
  ∃(v:Value) (l:List s.T),cs=[v]∧Rep noA w [] [] (SV.row s l).g v:=by
 rcases Go.Deep.open_slice ht h with⟨rfl,_⟩|⟨a,len,cap,m,n,D,Pl,rfl,hb,hl,hm,hmm,_,hx⟩
 ·exact⟨_,[],rfl,by simp only[SV.g,Rep];exact⟨none,0,rfl,Nat.le_refl _,by simp[flatA,pureL],by simp[flatA,RepM]⟩⟩
 ·have hlm:len≤m:=by rw[hmm];split<;>omega
  have h1:∀i,i<len→∃y:s.T,∃cs,w.cells? 0 (a.add (i*s.sz)) s.sz=some cs∧RepL noA w [] [] (encA s y) cs:=fun i hi=>by
   obtain⟨cs',k1,k2⟩:=hx i (by omega)
   obtain⟨y,hy⟩:=he _ _ _ _ _ _ _ _ k2
   rw[hc] at k1
   exact⟨y,cs',k1,hy⟩
  obtain⟨f,hf⟩:=Go.Deep.choose_lt h1
  refine⟨_,(List.range len).map f,rfl,?_⟩
  simp only[SV.g,Rep,List.length_map,List.length_range]
  refine⟨some a,cap,rfl,hl,flatA_pure _ _,?_⟩
  have:=repM_flat (w:=w) (a:=a) (s:=s) (l:=(List.range len).map f) (i0:=0) (fun i y hy=>by
   rw[List.getElem?_map] at hy
   obtain⟨j,hj,rfl⟩:=Option.map_eq_some_iff.1 hy
   have hi:i<len:=by
    have:=(List.getElem?_eq_some_iff.1 hj).1
    simpa using this
   rw[List.getElem?_range hi] at hj
   simp only[Option.some.injEq] at hj
   subst hj
   rw[Nat.zero_add]
   exact hf i hi)
  simpa using this
theorem reads_slice {P:Program} {t e:TypeId} {s:SId} (ht:P.underlying t=some (.slice e)) (he:Reads P e s) (hc:P.cellsOf e=s.sz)
  {H:Type} {enc:TypeId×Value→H} {w:World} {spare:Nat→Bool} {held:Bool} {fuel:Nat} {cs:List Value} {x:DataW H×List MemPlace} (h:DataW.trod enc P w 0 spare held fuel t cs=some x) (hf:s.flat=true:=by rfl):
  ∃(v:Value) (l:List s.T),cs=[v]∧Rep noA w [] [] (SV.row s l).g v:=reads_sliceG ht (he.g hf) hc h
theorem readsG_lst {P:Program} {t e:TypeId} {s:SId} (ht:P.underlying t=some (.slice e)) (he:ReadsG P e s) (hc:P.cellsOf e=s.sz):ReadsG P t (.lst s):=fun H enc w spare held fuel cs x h=>by
 obtain⟨v,l,rfl,hr⟩:=reads_sliceG ht he hc h
 exact⟨l,by simp only[encA,RepL];exact⟨v,[],rfl,hr,rfl⟩⟩
theorem one_of {cs:List Value} {i:Nat} {v:Value} (h:(cs.drop i).take 1=[v]):cs[i]?=some v:=by
 have:((cs.drop i).take 1)[0]?=some v:=by rw[h];rfl
 rw[List.getElem?_take,if_pos (by omega),List.getElem?_drop] at this
 simpa using this
theorem reads_bun {P:Program} {t e:TypeId} (ht:P.underlying t=some (.array 6 e)) (hi:P.underlying e=some (.int .i64)) (hc:P.cellsOf e=1) (hn:P.cellsOf t=6):Reads P t .bun:=fun _ _ _ _ _ _ _ cs _ h=>by
 obtain⟨xs,m,_,_,hl,hxs,hf⟩:=DataW.trod_array ht h
 have get:∀i,i<6→∃n,cs[i]?=some (.int .i64 n):=fun i hi6=>by
  have h1:=hf i hi6
  rw[hc,Nat.mul_one,List.getElem?_eq_getElem (by omega)] at h1
  obtain⟨n,h2,_⟩:=DataW.trod_int hi h1
  exact⟨n,one_of h2⟩
 rw[hn] at hl
 match cs,hl,get with
 |[c0,c1,c2,c3,c4,c5],_,get=>
  obtain⟨n0,h0⟩:=get 0 (by omega)
  obtain⟨n1,h1⟩:=get 1 (by omega)
  obtain⟨n2,h2⟩:=get 2 (by omega)
  obtain⟨n3,h3⟩:=get 3 (by omega)
  obtain⟨n4,h4⟩:=get 4 (by omega)
  obtain⟨n5,h5⟩:=get 5 (by omega)
  simp only[List.getElem?_cons_zero,List.getElem?_cons_succ,Option.some.injEq] at h0 h1 h2 h3 h4 h5
  exact⟨⟨n0,n1,n2,n3,n4,n5⟩,by simp[encV,iv,h0,h1,h2,h3,h4,h5]⟩
theorem reads_off {P:Program} {t b i v:TypeId} {fs:Array Field} (ht:P.underlying t=some (.struct fs)) (hn:P.cellsOf t=8) (h0:(fs[0]?).map (fun f=>(f.type,f.offset))=some (i,0)) (h1:(fs[1]?).map (fun f=>(f.type,f.offset))=some (b,1)) (h2:(fs[2]?).map (fun f=>(f.type,f.offset))=some (v,7))
  (hi:P.underlying i=some (.int .i64)) (hci:P.cellsOf i=1) (hv:P.underlying v=some (.int .i64)) (hcv:P.cellsOf v=1) (hb:Reads P b .bun) (hcb:P.cellsOf b=6) (hsz:fs.size=3):Reads P t .off:=fun _ _ _ _ _ _ _ cs _ h=>by
 obtain⟨xs,m,_,_,hl,hxs,hf⟩:=DataW.trod_struct ht h
 rw[hn] at hl
 obtain⟨f0,e0,k0⟩:=Option.map_eq_some_iff.1 h0
 obtain⟨f1,e1,k1⟩:=Option.map_eq_some_iff.1 h1
 obtain⟨f2,e2,k2⟩:=Option.map_eq_some_iff.1 h2
 simp only[Prod.mk.injEq] at k0 k1 k2
 have g0:=hf 0 f0 e0
 have g1:=hf 1 f1 e1
 have g2:=hf 2 f2 e2
 rw[k0.1,k0.2,hci,List.getElem?_eq_getElem (by omega)] at g0
 rw[k1.1,k1.2,hcb,List.getElem?_eq_getElem (by omega)] at g1
 rw[k2.1,k2.2,hcv,List.getElem?_eq_getElem (by omega)] at g2
 obtain⟨n0,q0,_⟩:=DataW.trod_int hi g0
 obtain⟨y,q1⟩:=hb _ _ _ _ _ _ _ _ _ g1
 obtain⟨n2,q2,_⟩:=DataW.trod_int hv g2
 match cs,hl with
 |[c0,c1,c2,c3,c4,c5,c6,c7],_=>
  simp[encV] at q0 q1 q2
  exact⟨⟨n0,y,n2⟩,by simp[encV,iv,q0,q1,q2]⟩
theorem reads_prob {P:Program} {t b k o:TypeId} {fs:Array Field} (ht:P.underlying t=some (.struct fs)) (hn:P.cellsOf t=20) (hsz:fs.size=5)
  (h0:(fs[0]?).map (fun f=>(f.type,f.offset))=some (b,0)) (h1:(fs[1]?).map (fun f=>(f.type,f.offset))=some (b,6)) (h2:(fs[2]?).map (fun f=>(f.type,f.offset))=some (b,12))
  (h3:(fs[3]?).map (fun f=>(f.type,f.offset))=some (k,18)) (h4:(fs[4]?).map (fun f=>(f.type,f.offset))=some (o,19))
  (hb:Reads P b .bun) (hcb:P.cellsOf b=6) {e:TypeId} (hk:P.underlying k=some (.slice e)) (hke:Reads P e (.i .i64)) (hce:P.cellsOf e=1) (hck:P.cellsOf k=1)
  {f:TypeId} (ho:P.underlying o=some (.slice f)) (hoe:Reads P f .off) (hcf:P.cellsOf f=8) (hco:P.cellsOf o=1)
  {H:Type} {enc:TypeId×Value→H} {w:World} {spare:Nat→Bool} {held:Bool} {fuel:Nat} {cs:List Value} {x:DataW H×List MemPlace} (h:DataW.trod enc P w 0 spare held fuel t cs=some x):
  ∃p:Prob,RepL noA w [] [] (gL p.ss) cs:=by
 obtain⟨xs,m,_,_,hl,hxs,hf⟩:=DataW.trod_struct ht h
 rw[hn] at hl
 obtain⟨f0,e0,k0⟩:=Option.map_eq_some_iff.1 h0
 obtain⟨f1,e1,k1⟩:=Option.map_eq_some_iff.1 h1
 obtain⟨f2,e2,k2⟩:=Option.map_eq_some_iff.1 h2
 obtain⟨f3,e3,k3⟩:=Option.map_eq_some_iff.1 h3
 obtain⟨f4,e4,k4⟩:=Option.map_eq_some_iff.1 h4
 simp only[Prod.mk.injEq] at k0 k1 k2 k3 k4
 have g0:=hf 0 f0 e0
 have g1:=hf 1 f1 e1
 have g2:=hf 2 f2 e2
 have g3:=hf 3 f3 e3
 have g4:=hf 4 f4 e4
 rw[k0.1,k0.2,hcb,List.getElem?_eq_getElem (by omega)] at g0
 rw[k1.1,k1.2,hcb,List.getElem?_eq_getElem (by omega)] at g1
 rw[k2.1,k2.2,hcb,List.getElem?_eq_getElem (by omega)] at g2
 rw[k3.1,k3.2,hck,List.getElem?_eq_getElem (by omega)] at g3
 rw[k4.1,k4.2,hco,List.getElem?_eq_getElem (by omega)] at g4
 obtain⟨y0,q0⟩:=hb _ _ _ _ _ _ _ _ _ g0
 obtain⟨y1,q1⟩:=hb _ _ _ _ _ _ _ _ _ g1
 obtain⟨y2,q2⟩:=hb _ _ _ _ _ _ _ _ _ g2
 obtain⟨v3,l3,q3,r3⟩:=reads_slice hk hke hce g3
 obtain⟨v4,l4,q4,r4⟩:=reads_slice ho hoe hcf g4
 match cs,hl with
 |[c0,c1,c2,c3,c4,c5,c6,c7,c8,c9,c10,c11,c12,c13,c14,c15,c16,c17,c18,c19],_=>
  simp[encV,iv] at q0 q1 q2 q3 q4
  obtain⟨rfl,rfl,rfl,rfl,rfl,rfl⟩:=q0
  obtain⟨rfl,rfl,rfl,rfl,rfl,rfl⟩:=q1
  obtain⟨rfl,rfl,rfl,rfl,rfl,rfl⟩:=q2
  subst q3
  subst q4
  refine⟨⟨y0,y1,y2,l3,l4⟩,?_⟩
  have hi:∀n:Int,Rep noA w [] [] (SV.si .i64 n).g (.int .i64 n):=fun n=>by simp[SV.g,Rep,Value.oneCell']
  simp only[Prob.ss,gL,RepL]
  exact⟨_,_,rfl,hi _,_,_,rfl,hi _,_,_,rfl,hi _,_,_,rfl,hi _,_,_,rfl,hi _,_,_,rfl,hi _,_,_,rfl,hi _,_,_,rfl,hi _,_,_,rfl,hi _,_,_,rfl,hi _,_,_,rfl,hi _,_,_,rfl,hi _,
   _,_,rfl,hi _,_,_,rfl,hi _,_,_,rfl,hi _,_,_,rfl,hi _,_,_,rfl,hi _,_,_,rfl,hi _,_,_,rfl,r3,_,_,rfl,r4,rfl⟩
theorem reads_alloc {P:Program} {t k v:TypeId} {fs:Array Field} (ht:P.underlying t=some (.struct fs)) (hn:P.cellsOf t=2) (hsz:fs.size=2)
  (h0:(fs[0]?).map (fun f=>(f.type,f.offset))=some (k,0)) (h1:(fs[1]?).map (fun f=>(f.type,f.offset))=some (v,1))
  {e:TypeId} (hk:P.underlying k=some (.slice e)) (hke:Reads P e (.i .i64)) (hce:P.cellsOf e=1) (hck:P.cellsOf k=1) (hv:P.underlying v=some (.int .i64)) (hcv:P.cellsOf v=1)
  {H:Type} {enc:TypeId×Value→H} {w:World} {spare:Nat→Bool} {held:Bool} {fuel:Nat} {cs:List Value} {x:DataW H×List MemPlace} (h:DataW.trod enc P w 0 spare held fuel t cs=some x):
  ∃a:Alloc,RepL noA w [] [] (gL [.row (.i .i64) a.chosen,.si .i64 a.value]) cs:=by
 obtain⟨xs,m,_,_,hl,hxs,hf⟩:=DataW.trod_struct ht h
 rw[hn] at hl
 obtain⟨f0,e0,k0⟩:=Option.map_eq_some_iff.1 h0
 obtain⟨f1,e1,k1⟩:=Option.map_eq_some_iff.1 h1
 simp only[Prod.mk.injEq] at k0 k1
 have g0:=hf 0 f0 e0
 have g1:=hf 1 f1 e1
 rw[k0.1,k0.2,hck,List.getElem?_eq_getElem (by omega)] at g0
 rw[k1.1,k1.2,hcv,List.getElem?_eq_getElem (by omega)] at g1
 obtain⟨v0,l0,q0,r0⟩:=reads_slice hk hke hce g0
 obtain⟨n1,q1,_⟩:=DataW.trod_int hv g1
 match cs,hl with
 |[c0,c1],_=>
  simp at q0 q1
  subst q0
  subst q1
  refine⟨⟨l0,n1⟩,?_⟩
  simp only[gL,RepL]
  exact⟨_,_,rfl,r0,_,_,rfl,by simp[SV.g,Rep,Value.oneCell'],rfl⟩
theorem agg_cells {P:Program} {w:World} {r:Reach} {base:Nat} {t:TypeId} {v:Value} {fs:Array Field} (ht:P.underlying t=some (.struct fs)) (h:Value.okWide P w r base t v):∃cs,v= .agg cs∧v.cells.toList=cs.toList:=by
 unfold Value.okWide at h
 rw[ht] at h
 obtain⟨cs,rfl,_⟩:=h
 exact⟨cs,rfl,rfl⟩
theorem cell_slice {P:Program} {w:World} {r:Reach} {base:Nat} {t e:TypeId} {v:Value} (ht:P.underlying t=some (.slice e)) (h:Value.okWide P w r base t v):v.cells.toList=[v]:=by
 cases v with
 |agg cs=>simp[Value.okWide,ht,Cell.okWide,Cell.ok] at h
 |_=>rfl
theorem cell_int {P:Program} {w:World} {r:Reach} {base:Nat} {t:TypeId} {k:IntKind} {v:Value} (ht:P.underlying t=some (.int k)) (h:Value.okWide P w r base t v):v.cells.toList=[v]:=by
 cases v with
 |agg cs=>simp[Value.okWide,ht,Cell.okWide,Cell.ok] at h
 |_=>rfl
theorem stays_all {H:Type} {enc:TypeId×Value→H} {P:Program} (hl:laidOutB P=true) {W W':World} (hb:Below W.heap.size W W') {sp:Nat→Bool}:
  ∀{ts:List TypeId} {vs:List Value} {ds:List (DataW H)} {ps:List MemPlace},DataW.TrodAll enc P W 0 (fun _=>true) true ts vs ds ps→(∀t∈ts,P.readableRec t=true∧t<P.types.size)→(∀p∈ps,p.block<W.heap.size)→(∀p∈ps,sp p.block=true)→
   DataW.TrodAll enc P W' 0 sp true ts vs ds ps
 |[],_,_,_,h,_,_,_=>by
  obtain⟨rfl,rfl,rfl⟩:=trodAll_nil h
  exact rfl
 |t::ts,_,_,_,h,ht,hlt,hs=>by
  obtain⟨v,vs,d,ds,a,b,rfl,rfl,rfl,h1,h2⟩:=trodAll_cons h
  obtain⟨r1,r2⟩:=ht t (by simp)
  exact⟨a,b,WideElems.Trod_stays hl r1 r2 h1 (fun p hp=>hb.same (hlt p (by simp[hp]))) (fun p hp=>hs p (by simp[hp])),
   stays_all hl hb h2 (fun u hu=>ht u (by simp[hu])) (fun p hp=>hlt p (by simp[hp])) (fun p hp=>hs p (by simp[hp])),rfl⟩
theorem below_of_ext {W W':World} {σ':Sig} {o':Store} (h:Ext W [] [] W' σ' o'):Below W.heap.size W W':=
 ⟨h.os,h.tape,h.output,h.size,fun k hk=>(h.blk k hk (by rintro⟨i,c,hh⟩;simp at hh)).1⟩
end Go.Vi
namespace Go.Proofs.Ytigbjjkijfkeeaa
open Go.ChangeShapes Go.WideShapes Go.ChangeAt Go.RowKit Go.Vi
theorem Try.own:ownKnob Try.prog.godebug=none:=by kernel_rfl
theorem Try.laidOut:laidOutB Try.prog=true:=by kernel_rfl
theorem rd_int:Reads Try.prog 3 (.i .i64):=reads_int Try.underlying3
theorem rd_bun:Reads Try.prog 23 .bun:=reads_bun Try.underlying23 Try.underlying3 (by kernel_rfl) (by kernel_rfl)
theorem rd_off:Reads Try.prog 43 .off:=reads_off Try.underlying43 (by kernel_rfl) rfl rfl rfl Try.underlying3 (by kernel_rfl) Try.underlying2 (by kernel_rfl) rd_bun (by kernel_rfl) rfl
theorem rd_prob {H:Type} {enc:TypeId×Value→H} {w:World} {spare:Nat→Bool} {held:Bool} {fuel:Nat} {cs:List Value} {x:DataW H×List MemPlace} (h:DataW.trod enc Try.prog w 0 spare held fuel 27 cs=some x):
  ∃p:Prob,RepL noA w [] [] (gL p.ss) cs:=
 reads_prob Try.underlying27 (by kernel_rfl) rfl rfl rfl rfl rfl rfl rd_bun (by kernel_rfl) Try.underlying24 rd_int (by kernel_rfl) (by kernel_rfl) Try.underlying25 rd_off (by kernel_rfl) (by kernel_rfl) h
theorem law_calls {f:FuncId} {args:List SV} (h:CallO Try.prog f (gL args) [] (SV.sb true).g []) {W:World} {vs:List Value} (hr:RepL noA W [] [] (gL args) vs):
  Calls Try.prog f vs.toArray W fun e W'=>e= .returned (.bool true)∧Below W.heap.size W W':=by
 refine(h noA W [] vs (simO_nil W (fun b hb=>hb.elim)) hr).mono ?_
 rintro e W' ⟨u,σ',rfl,_,hu,hx⟩
 simp only[SV.g,Rep] at hu
 exact⟨by rw[hu.1],below_of_ext hx⟩
end Go.Proofs.Ytigbjjkijfkeeaa
namespace Go.Vi
open Go.ChangeShapes Go.WideShapes Go.RowKit
def ReadsQ (P:Program) (t:TypeId) (s:SId) (Q:s.T→Prop):Prop:=
 ∀(H:Type) (enc:TypeId×Value→H) (w:World) (spare:Nat→Bool) (held:Bool) (fuel:Nat) (cs:List Value) (x:DataW H×List MemPlace),DataW.trod enc P w 0 spare held fuel t cs=some x→∃y:s.T,Q y∧RepL noA w [] [] (encA s y) cs
theorem ReadsG.q {P:Program} {t:TypeId} {s:SId} (h:ReadsG P t s):ReadsQ P t s fun _=>True:=fun H enc w spare held fuel cs x hx=>by
 obtain⟨y,hy⟩:=h H enc w spare held fuel cs x hx
 exact⟨y,trivial,hy⟩
theorem readsQ_int {P:Program} {t:TypeId} {k:IntKind} (ht:P.underlying t=some (.int k)):ReadsQ P t (.i k) fun n=>k.min≤(show Int from n)∧(show Int from n)≤k.max:=fun _ _ _ _ _ _ cs _ h=>by
 obtain⟨n,rfl,_,hw⟩:=DataW.trod_int ht h
 simp only[Lit.wf,Bool.and_eq_true,decide_eq_true_eq] at hw
 exact⟨n,hw,by simp[encA,encV,RepL,Rep,Value.oneCell']⟩
theorem reads_sliceQ {P:Program} {t e:TypeId} {s:SId} {Q:s.T→Prop} (ht:P.underlying t=some (.slice e)) (he:ReadsQ P e s Q) (hc:P.cellsOf e=s.sz)
  {H:Type} {enc:TypeId×Value→H} {w:World} {spare:Nat→Bool} {held:Bool} {fuel:Nat} {cs:List Value} {x:DataW H×List MemPlace} (h:DataW.trod enc P w 0 spare held fuel t cs=some x):
  ∃(v:Value) (l:List s.T),cs=[v]∧l.length≤9223372036854775807∧(∀y∈l,Q y)∧Rep noA w [] [] (SV.row s l).g v:=by
 rcases Go.Deep.open_slice ht h with⟨rfl,_⟩|⟨a,len,cap,m,n,D,Pl,rfl,hb,hl,hm,hmm,_,hx⟩
 ·exact⟨_,[],rfl,by simp,by simp,by simp only[SV.g,Rep];exact⟨none,0,rfl,Nat.le_refl _,by simp[flatA,pureL],by simp[flatA,RepM]⟩⟩
 ·have hlm:len≤m:=by rw[hmm];split<;>omega
  have h1:∀i,i<len→∃y:s.T,∃cs,Q y∧w.cells? 0 (a.add (i*s.sz)) s.sz=some cs∧RepL noA w [] [] (encA s y) cs:=fun i hi=>by
   obtain⟨cs',k1,k2⟩:=hx i (by omega)
   obtain⟨y,hq,hy⟩:=he _ _ _ _ _ _ _ _ k2
   rw[hc] at k1
   exact⟨y,cs',hq,k1,hy⟩
  obtain⟨f,hf⟩:=Go.Deep.choose_lt h1
  refine⟨_,(List.range len).map f,rfl,?_,?_,?_⟩
  ·rw[List.length_map,List.length_range]
   unfold maxLen at hm
   omega
  ·intro y hy
   obtain⟨i,hi,rfl⟩:=List.mem_map.1 hy
   obtain⟨_,hq,_⟩:=hf i (List.mem_range.1 hi)
   exact hq
  simp only[SV.g,Rep,List.length_map,List.length_range]
  refine⟨some a,cap,rfl,hl,flatA_pure _ _,?_⟩
  have:=repM_flat (w:=w) (a:=a) (s:=s) (l:=(List.range len).map f) (i0:=0) (fun i y hy=>by
   rw[List.getElem?_map] at hy
   obtain⟨j,hj,rfl⟩:=Option.map_eq_some_iff.1 hy
   have hi:i<len:=by
    have:=(List.getElem?_eq_some_iff.1 hj).1
    simpa using this
   rw[List.getElem?_range hi] at hj
   simp only[Option.some.injEq] at hj
   subst hj
   rw[Nat.zero_add]
   obtain⟨cs,_,k⟩:=hf i hi
   exact⟨cs,k⟩)
  simpa using this
theorem readsQ_lst {P:Program} {t e:TypeId} {s:SId} {Q:s.T→Prop} (ht:P.underlying t=some (.slice e)) (he:ReadsQ P e s Q) (hc:P.cellsOf e=s.sz):
  ReadsQ P t (.lst s) fun l=>(show List s.T from l).length≤9223372036854775807∧∀y∈(show List s.T from l),Q y:=fun H enc w spare held fuel cs x h=>by
 obtain⟨v,l,rfl,hl,hq,hr⟩:=reads_sliceQ ht he hc h
 exact⟨l,⟨hl,hq⟩,by simp only[encA,RepL];exact⟨v,[],rfl,hr,rfl⟩⟩
abbrev fracId:SId:=.pair .b (.pair (.lst (.i .u32)) (.lst (.i .u32)))
def digR (l:List Int):Prop:=∀d∈l,0≤d∧d<4294967296
def fracQ (x:Bool×(List Int×List Int)):Prop:=digR x.2.1∧digR x.2.2
theorem readsQ_frac {P:Program} {t b n e:TypeId} {fs:Array Field} (ht:P.underlying t=some (.struct fs)) (hn:P.cellsOf t=3) (hsz:fs.size=3)
  (h0:(fs[0]?).map (fun f=>(f.type,f.offset))=some (b,0)) (h1:(fs[1]?).map (fun f=>(f.type,f.offset))=some (n,1)) (h2:(fs[2]?).map (fun f=>(f.type,f.offset))=some (n,2))
  (hb:P.underlying b=some .bool) (hcb:P.cellsOf b=1) (hs:P.underlying n=some (.slice e)) (hcn:P.cellsOf n=1) (he:P.underlying e=some (.int .u32)) (hce:P.cellsOf e=1):
  ReadsQ P t fracId fracQ:=fun H enc w spare held fuel cs x h=>by
 obtain⟨xs,m,_,_,hl,hxs,hf⟩:=DataW.trod_struct ht h
 rw[hn] at hl
 obtain⟨f0,e0,k0⟩:=Option.map_eq_some_iff.1 h0
 obtain⟨f1,e1,k1⟩:=Option.map_eq_some_iff.1 h1
 obtain⟨f2,e2,k2⟩:=Option.map_eq_some_iff.1 h2
 simp only[Prod.mk.injEq] at k0 k1 k2
 have g0:=hf 0 f0 e0
 have g1:=hf 1 f1 e1
 have g2:=hf 2 f2 e2
 rw[k0.1,k0.2,hcb,List.getElem?_eq_getElem (by omega)] at g0
 rw[k1.1,k1.2,hcn,List.getElem?_eq_getElem (by omega)] at g1
 rw[k2.1,k2.2,hcn,List.getElem?_eq_getElem (by omega)] at g2
 obtain⟨b0,q0,_⟩:=DataW.trod_bool hb g0
 obtain⟨v1,l1,q1,n1,d1,r1⟩:=reads_sliceQ hs (readsQ_int he) hce g1
 obtain⟨v2,l2,q2,n2,d2,r2⟩:=reads_sliceQ hs (readsQ_int he) hce g2
 match cs,hl with
 |[c0,c1,c2],_=>
  simp at q0 q1 q2
  subst q0
  subst q1
  subst q2
  refine⟨(b0,(l1,l2)),⟨fun d hd=>?_,fun d hd=>?_⟩,?_⟩
  ·have:=d1 d hd
   have h3:IntKind.u32.min=0:=rfl
   have h4:IntKind.u32.max=4294967295:=rfl
   rw[h3,h4] at this
   have h5:(0:Int)≤d∧d≤4294967295:=this
   omega
  ·have:=d2 d hd
   have h3:IntKind.u32.min=0:=rfl
   have h4:IntKind.u32.max=4294967295:=rfl
   rw[h3,h4] at this
   have h5:(0:Int)≤d∧d≤4294967295:=this
   omega
  ·have e:encA fracId (b0,(l1,l2))=[AV.sc (.bool b0),(SV.row (.i .u32) l1).g,(SV.row (.i .u32) l2).g]:=by
    simp only[encA,encV,SV.g,flatA,List.map_cons,List.map_nil,List.cons_append,List.nil_append]
   rw[e]
   simp only[RepL]
   exact⟨_,_,rfl,by simp[Rep,Value.oneCell'],_,_,rfl,r1,_,_,rfl,r2,rfl⟩
theorem readsQ_alloc {P:Program} {t k v:TypeId} {fs:Array Field} (ht:P.underlying t=some (.struct fs)) (hn:P.cellsOf t=2) (hsz:fs.size=2)
  (h0:(fs[0]?).map (fun f=>(f.type,f.offset))=some (k,0)) (h1:(fs[1]?).map (fun f=>(f.type,f.offset))=some (v,1))
  {e:TypeId} (hk:P.underlying k=some (.slice e)) (hke:P.underlying e=some (.int .i64)) (hce:P.cellsOf e=1) (hck:P.cellsOf k=1) (hv:P.underlying v=some (.int .i64)) (hcv:P.cellsOf v=1)
  {H:Type} {enc:TypeId×Value→H} {w:World} {spare:Nat→Bool} {held:Bool} {fuel:Nat} {cs:List Value} {x:DataW H×List MemPlace} (h:DataW.trod enc P w 0 spare held fuel t cs=some x):
  ∃a:Alloc,a.chosen.length≤9223372036854775807∧RepL noA w [] [] (gL [.row (.i .i64) a.chosen,.si .i64 a.value]) cs:=by
 obtain⟨xs,m,_,_,hl,hxs,hf⟩:=DataW.trod_struct ht h
 rw[hn] at hl
 obtain⟨f0,e0,k0⟩:=Option.map_eq_some_iff.1 h0
 obtain⟨f1,e1,k1⟩:=Option.map_eq_some_iff.1 h1
 simp only[Prod.mk.injEq] at k0 k1
 have g0:=hf 0 f0 e0
 have g1:=hf 1 f1 e1
 rw[k0.1,k0.2,hck,List.getElem?_eq_getElem (by omega)] at g0
 rw[k1.1,k1.2,hcv,List.getElem?_eq_getElem (by omega)] at g1
 obtain⟨v0,l0,q0,n0,_,r0⟩:=reads_sliceQ hk (readsQ_int hke) hce g0
 obtain⟨n1,q1,_⟩:=DataW.trod_int hv g1
 match cs,hl with
 |[c0,c1],_=>
  simp at q0 q1
  subst q0
  subst q1
  refine⟨⟨l0,n1⟩,n0,?_⟩
  simp only[gL,RepL]
  exact⟨_,_,rfl,r0,_,_,rfl,by simp[SV.g,Rep,Value.oneCell'],rfl⟩
end Go.Vi
namespace Go.Proofs.Ytigbjjkijfkeeaa
open Go.ChangeShapes Go.WideShapes Go.ChangeAt Go.RowKit Go.Vi
theorem rd_allocQ {H:Type} {enc:TypeId×Value→H} {w:World} {spare:Nat→Bool} {held:Bool} {fuel:Nat} {cs:List Value} {x:DataW H×List MemPlace} (h:DataW.trod enc Try.prog w 0 spare held fuel 31 cs=some x):
  ∃a:Alloc,a.chosen.length≤9223372036854775807∧RepL noA w [] [] (gL [.row (.i .i64) a.chosen,.si .i64 a.value]) cs:=
 readsQ_alloc Try.underlying31 (by kernel_rfl) rfl rfl rfl Try.underlying24 Try.underlying3 (by kernel_rfl) (by kernel_rfl) Try.underlying2 (by kernel_rfl) h
end Go.Proofs.Ytigbjjkijfkeeaa
namespace Go.Vi
open Go.Proofs.Ytigbjjkijfkeeaa.Ir
open Go.Proofs
@[simp] theorem same_si_si {k k':IntKind} {a b:Int}:(SV.si k a).same (.si k' b)↔k=k'∧a=b:=by simp[SV.same,SV.g]
@[simp] theorem same_il_si {k k':IntKind} {a b:Int}:(SV.il k a).same (.si k' b)↔k=k'∧a=b:=by simp[SV.same,SV.g]
@[simp] theorem same_sb_sb {a b:Bool}:(SV.sb a).same (.sb b)↔a=b:=by simp[SV.same,SV.g]
@[simp] theorem same_bl_sb {a b:Bool}:(SV.bl a).same (.sb b)↔a=b:=by simp[SV.same,SV.g]
@[simp] theorem same_row {s:SId} {a b:List s.T}:(SV.row s a).same (.row s b)↔a=b:=by
 constructor
 ·intro h;simp only[SV.same,SV.g,AV.sl.injEq] at h;exact flatA_inj s h.1 h.2
 ·rintro rfl;rfl
@[simp] theorem same_si_il {k k':IntKind} {a b:Int}:(SV.si k a).same (.il k' b)↔k=k'∧a=b:=by simp[SV.same,SV.g]
@[simp] theorem same_il_il {k k':IntKind} {a b:Int}:(SV.il k a).same (.il k' b)↔k=k'∧a=b:=by simp[SV.same,SV.g]
theorem same_rfl {v:SV}:v.same v↔True:=iff_true_intro rfl
theorem osame_rfl {v:SObj}:v.same v↔True:=iff_true_intro rfl
theorem same_tup2 {a b c d:SV}:(SV.tup [a,b]).same (.tup [c,d])↔a.same c∧b.same d:=by simp[SV.same,SV.g,gL]
theorem same_tup3 {a b c d e f:SV}:(SV.tup [a,b,c]).same (.tup [d,e,f])↔a.same d∧b.same e∧c.same f:=by simp[SV.same,SV.g,gL]
theorem same_nil {s t:SId}:(SV.row s []).same (.row t [])↔True:=iff_true_intro (by simp[SV.same,SV.g,flatA])
theorem same_row_nil {s:SId} {l:List s.T}:(SV.row (.i .i64) []).same (.row s l)↔l=[]:=by
 constructor
 ·intro h;simp only[SV.same,SV.g,AV.sl.injEq] at h;simpa using h.1.symm
 ·rintro rfl;exact same_nil.2 trivial
theorem bun_eq {a b:Bun}:a=b↔a.a0=b.a0∧a.a1=b.a1∧a.a2=b.a2∧a.a3=b.a3∧a.a4=b.a4∧a.a5=b.a5:=by
 obtain⟨a0,a1,a2,a3,a4,a5⟩:=a
 obtain⟨b0,b1,b2,b3,b4,b5⟩:=b
 simp only[Bun.mk.injEq]
@[simp] theorem inR_i64 {n:Int}:inR .i64 n↔ -9223372036854775808≤n∧n≤9223372036854775807:=Iff.rfl
theorem vcs:(∀{p:Prop} [inst:Decidable p],(decide p=true)=p)∧(∀{p:Prop} {x:Decidable p},decide p=false↔¬p)∧(∀{k k':IntKind} {a b:Int},(SV.il k a).same (SV.si k' b)↔k=k'∧a=b)∧(∀{k k':IntKind} {a b:Int},(SV.si k a).same (SV.si k' b)↔k=k'∧a=b)∧(∀{k k':IntKind} {a b:Int},(SV.si k a).same (SV.il k' b)↔k=k'∧a=b)∧(∀{k k':IntKind} {a b:Int},(SV.il k a).same (SV.il k' b)↔k=k'∧a=b)∧(∀{a b:Bool},(SV.sb a).same (SV.sb b)↔a=b)∧(∀{a b:Bool},(SV.bl a).same (SV.sb b)↔a=b)∧(∀{s:SId} {a b:List s.T},(SV.row s a).same (SV.row s b)↔a=b)∧(∀{a b c d:SV},(SV.tup [a,b]).same (SV.tup [c,d])↔a.same c∧b.same d)∧(∀{a b c d e f:SV},(SV.tup [a,b,c]).same (SV.tup [d,e,f])↔a.same d∧b.same e∧c.same f)∧(∀{s t:SId},(SV.row s []).same (SV.row t [])↔True)∧(∀{s:SId} {l:List s.T},(SV.row (SId.i IntKind.i64) []).same (SV.row s l)↔l=[])∧(∀{v:SV},v.same v↔True)∧(∀{v:SObj},v.same v↔True)∧(∀{n:Int},inR IntKind.i64 n↔ -9223372036854775808≤n∧n≤9223372036854775807)∧(∀p:Prop,(True∧p)=p)∧(∀p:Prop,(p∧True)=p)∧(∀a b:Bool,((a&&b)=true)=(a=true∧b=true))∧(∀b:Bool,((!b)=true)=(b=false))∧(∀b:Bool,((!b)=false)=(b=true)):=
 ⟨decide_eq_true_eq,decide_eq_false_iff_not,same_il_si,same_si_si,same_si_il,same_il_il,same_sb_sb,same_bl_sb,same_row,same_tup2,same_tup3,same_nil,same_row_nil,same_rfl,osame_rfl,inR_i64,true_and,and_true,Bool.and_eq_true,Bool.not_eq_true',Bool.not_eq_false'⟩
def Bun.ok (b:Bun):Bool:=[b.a0,b.a1,b.a2,b.a3,b.a4,b.a5].all fun n=>decide (0≤n)&&decide (n≤4)
theorem Bun.ok_iff {b:Bun}:b.ok=true↔(0≤b.a0∧b.a0≤4)∧(0≤b.a1∧b.a1≤4)∧(0≤b.a2∧b.a2≤4)∧(0≤b.a3∧b.a3≤4)∧(0≤b.a4∧b.a4≤4)∧(0≤b.a5∧b.a5≤4):=by
 simp[Bun.ok]
def r146:SCtr:=⟨146,Bun,.one (codE .bun),fun _=>True,fun b=> .si .i64 (if b.ok=true then 0 else 4)⟩
theorem h146:Holds Try.prog r146:=by
 refine con (L:=[]) r146 F146 (fun _ _=> .unroll 7) (OwnOK.none _) (by simp) (by kernel_rfl) (by kernel_rfl) (fun _=>rfl) ?_
 intro b _
 refine vcOf (let z0:=decide (b.a0<(0:Int));let z1:=SV.si .i64 (if Bun.ok b=true then(0:Int) else(4:Int));let z2:=decide ((4:Int)<b.a0);let z3:=decide (b.a1<(0:Int));let z4:=decide ((4:Int)<b.a1);let z5:=decide (b.a2<(0:Int));let z6:=decide ((4:Int)<b.a2);let z7:=decide (b.a3<(0:Int));let z8:=decide ((4:Int)<b.a3);let z9:=decide (b.a4<(0:Int));let z10:=decide ((4:Int)<b.a4);let z11:=decide (b.a5<(0:Int));let z12:=decide ((4:Int)<b.a5);(z0=true→(SV.il .i64 4).same z1)∧(z0=false→(z2=true→(SV.il .i64 4).same z1)∧(z2=false→(z3=true→(SV.il .i64 4).same z1)∧(z3=false→(z4=true→(SV.il .i64 4).same z1)∧(z4=false→(z5=true→(SV.il .i64 4).same z1)∧(z5=false→(z6=true→(SV.il .i64 4).same z1)∧(z6=false→(z7=true→(SV.il .i64 4).same z1)∧(z7=false→(z8=true→(SV.il .i64 4).same z1)∧(z8=false→(z9=true→(SV.il .i64 4).same z1)∧(z9=false→(z10=true→(SV.il .i64 4).same z1)∧(z10=false→(z11=true→(SV.il .i64 4).same z1)∧(z11=false→(z12=true→(SV.il .i64 4).same z1)∧(z12=false→(SV.il .i64 0).same z1))))))))))))) (by kernel_rfl) ?_
 conv=>zeta
 have hb:=@Bun.ok_iff b
 by_cases h:b.ok=true
 ·have h2:=hb.1 h
  simp only[decide_eq_true_eq,decide_eq_false_iff_not,same_il_si,eq_self,true_and,h,if_true]
  repeat' (first|refine And.intro ?_ ?_|intro _)
  all_goals first|trivial|omega|(exfalso;omega)
 ·have h2:=mt hb.2 h
  simp only[decide_eq_true_eq,decide_eq_false_iff_not,same_il_si,eq_self,true_and,h]
  simp only[Bool.false_eq_true,if_false]
  repeat' (first|refine And.intro ?_ ?_|intro _)
  all_goals first|trivial|omega|(exfalso;omega)
def Bun.l (b:Bun):List Int:=[b.a0,b.a1,b.a2,b.a3,b.a4,b.a5]
def nrows (p:Prob):Int:=p.classes.length+12
def boundS (p:Prob) (r:Int):Int:=
 if r - p.classes.length<0 then 1
 else if r - p.classes.length<6 then nthD [p.supply.a0,p.supply.a1,p.supply.a2,p.supply.a3,p.supply.a4,p.supply.a5] (r - p.classes.length).toNat 0
 else nthD [p.opn.a0,p.opn.a1,p.opn.a2,p.opn.a3,p.opn.a4,p.opn.a5] (r - p.classes.length - 6).toNat 0
def coefS (p:Prob) (r:Int) (o:Off):Int:=
 if r - p.classes.length<0 then(if o.bidder=r then 1 else 0)
 else if r - p.classes.length<6 then nthD [o.want.a0,o.want.a1,o.want.a2,o.want.a3,o.want.a4,o.want.a5] (r - p.classes.length).toNat 0
 else if nthD [p.cls.a0,p.cls.a1,p.cls.a2,p.cls.a3,p.cls.a4,p.cls.a5] (r - p.classes.length - 6).toNat 0=0∨nthD [p.cls.a0,p.cls.a1,p.cls.a2,p.cls.a3,p.cls.a4,p.cls.a5] (r - p.classes.length - 6).toNat 0=nthD p.classes o.bidder.toNat 0 then 0
 else nthD [o.want.a0,o.want.a1,o.want.a2,o.want.a3,o.want.a4,o.want.a5] (r - p.classes.length - 6).toNat 0
def r157:SCtr:=⟨157,Prob,.one codP,fun p=>p.classes.length≤8,fun p=> .si .i64 (nrows p)⟩
def r158:SCtr:=⟨158,Prob×Int,.cons codP (.one (codI .i64)),fun a=>a.1.classes.length≤8∧0≤a.2∧a.2<nrows a.1,fun a=> .si .i64 (boundS a.1 a.2)⟩
def r156:SCtr:=⟨156,Prob×Int×Off,.cons codP (.cons (codI .i64) (.one (codE .off))),fun a=>a.1.classes.length≤8∧0≤a.2.1∧a.2.1<nrows a.1∧0≤a.2.2.bidder∧a.2.2.bidder<a.1.classes.length,fun a=> .si .i64 (coefS a.1 a.2.1 a.2.2)⟩
theorem h157:Holds Try.prog r157:=by
 refine con (L:=[]) r157 F157 (fun _ _=> .unroll 7) (OwnOK.none _) (by simp) (by kernel_rfl) (by kernel_rfl) (fun _=>rfl) ?_
 intro p (hp:p.classes.length≤8)
 refine vcOf (let z0:=(↑p.classes.length:Int)+(12:Int);inR .i64 z0∧(SV.si .i64 z0).same (SV.si .i64 (nrows p))) (by kernel_rfl) ?_
 simp only[vcs,nrows]
 omega
theorem h158:Holds Try.prog r158:=by
 refine con (L:=[]) r158 F158 (fun _ _=> .unroll 7) (OwnOK.none _) (by simp) (by kernel_rfl) (by kernel_rfl) (fun _=>rfl) ?_
 rintro⟨p,r⟩ ⟨hp,h1,h2⟩
 simp only[nrows] at hp h1 h2
 refine vcOf (let z0:=r - (↑p.classes.length:Int);let z1:=decide (z0<(0:Int));let z2:=SV.si .i64 (boundS p r);let z3:=decide (z0<(6:Int));let z4:=z0 - (6:Int);inR .i64 z0∧(z1=true→(SV.il .i64 1).same z2)∧(z1=false→(z3=true→(0:Int)≤z0∧z0<(6:Int)∧z0.toNat<6∧(SV.si .i64 (nthD [p.supply.a0,p.supply.a1,p.supply.a2,p.supply.a3,p.supply.a4,p.supply.a5] z0.toNat (0:Int))).same z2)∧(z3=false→inR .i64 z4∧(0:Int)≤z4∧z4<(6:Int)∧z4.toNat<6∧(SV.si .i64 (nthD [p.opn.a0,p.opn.a1,p.opn.a2,p.opn.a3,p.opn.a4,p.opn.a5] z4.toNat (0:Int))).same z2))) (by kernel_rfl) ?_
 simp only[vcs]
 repeat' (first|refine And.intro ?_ ?_|intro _)
 all_goals first
  |trivial
  |omega
  |(simp only[boundS];(repeat' split)<;>first|rfl|omega)
theorem h156:Holds Try.prog r156:=by
 refine con (L:=[]) r156 F156 (fun _ _=> .unroll 7) (OwnOK.none _) (by simp) (by kernel_rfl) (by kernel_rfl) (fun _=>rfl) ?_
 rintro⟨p,r,x⟩ ⟨hp,h1,h2,h3,h4⟩
 simp only[nrows] at hp h1 h2 h3 h4
 refine vcOf (let z0:=(↑p.classes.length:Int);let z1:=decide (r - z0<(0:Int));let z2:=decide (x.bidder=r);let z3:=SV.si .i64 (coefS p r x);let z4:=decide (r - z0<(6:Int));let z5:=[x.want.a0,x.want.a1,x.want.a2,x.want.a3,x.want.a4,x.want.a5];let z6:=r - z0 - (6:Int);let z7:=nthD [p.cls.a0,p.cls.a1,p.cls.a2,p.cls.a3,p.cls.a4,p.cls.a5] z6.toNat (0:Int);let z8:=decide (z7=(0:Int));let z9:=decide (z7=nthD p.classes x.bidder.toNat (0:Int));inR .i64 (r - z0)∧(z1=true→(z2=true→(SV.il .i64 1).same z3)∧(z2=false→(z1=true→(SV.il .i64 0).same z3)∧(z1=false→(z4=true→(0:Int)≤r - z0∧r - z0<(6:Int)∧(r - z0).toNat<6∧(SV.si .i64 (nthD z5 (r - z0).toNat (0:Int))).same z3)∧(z4=false→inR .i64 z6∧(0:Int)≤z6∧z6<(6:Int)∧z6.toNat<6∧(z8=true→(SV.il .i64 0).same z3)∧(z8=false→(0:Int)≤z6∧z6<(6:Int)∧z6.toNat<6∧(0:Int)≤x.bidder∧x.bidder<z0∧x.bidder.toNat<p.classes.length∧(z9=true→(SV.il .i64 0).same z3)∧(z9=false→(0:Int)≤z6∧z6<(6:Int)∧z6.toNat<6∧(SV.si .i64 (nthD z5 z6.toNat (0:Int))).same z3))))))∧(z1=false→(z1=true→(SV.il .i64 0).same z3)∧(z1=false→(z4=true→(0:Int)≤r - z0∧r - z0<(6:Int)∧(r - z0).toNat<6∧(SV.si .i64 (nthD z5 (r - z0).toNat (0:Int))).same z3)∧(z4=false→inR .i64 z6∧(0:Int)≤z6∧z6<(6:Int)∧z6.toNat<6∧(z8=true→(SV.il .i64 0).same z3)∧(z8=false→(0:Int)≤z6∧z6<(6:Int)∧z6.toNat<6∧(0:Int)≤x.bidder∧x.bidder<z0∧x.bidder.toNat<p.classes.length∧(z9=true→(SV.il .i64 0).same z3)∧(z9=false→(0:Int)≤z6∧z6<(6:Int)∧z6.toNat<6∧(SV.si .i64 (nthD z5 z6.toNat (0:Int))).same z3)))))) (by kernel_rfl) ?_
 simp only[vcs]
 repeat' (first|refine And.intro ?_ ?_|intro _)
 all_goals first
  |trivial
  |omega
  |(simp only[coefS];(repeat' split)<;>first|rfl|omega)
def L2:List SCtr:=[r156,r157,r158]
theorem hL2:∀c∈L2,Holds Try.prog c:=by
 simp only[L2,List.forall_mem_cons,List.not_mem_nil,false_implies,implies_true,and_true]
 exact⟨h156,h157,h158⟩
def sumS (p:Prob) (l:List Off) (r:Int):Int:=(l.map (coefS p r)).sum
def fitsB (p:Prob) (l:List Off):Bool:=(List.range (p.classes.length+12)).all fun r=>decide (sumS p l r≤boundS p r)
def r134:SCtr:=⟨134,Prob×List Off,.cons codP (.one (codR .off)),fun a=>a.1.classes.length≤8∧a.2.length≤1000∧(∀x∈a.2,0≤x.bidder∧x.bidder<a.1.classes.length∧x.want.ok=true),fun a=> .sb (fitsB a.1 a.2)⟩
def Λ134 (a:Prob×List Off):Nat→LoopAnn
 |3=> .inv Int (fun i=>⟨[(1,.row .off a.2),(2,.ptr 0 0 20),(5,.fn (.func 156) [] []),(11,.si .i64 (nrows a.1)),(12,.si .i64 i)],[.cells a.1.ss 148 20 false]⟩) (fun s=>iS s 12)
  (fun i=>0≤i∧i≤nrows a.1∧∀r:Nat,r<i→sumS a.1 a.2 r≤boundS a.1 r) (fun i=>(nrows a.1 - i).toNat)
  fun i=>fun
   |7=> .inv (Int×Int) (fun x=>⟨[(1,.row .off a.2),(2,.ptr 0 0 20),(5,.fn (.func 156) [] []),(6,.si .i64 i),(7,.si .i64 x.2),(11,.si .i64 (nrows a.1)),(12,.si .i64 i),(15,.row .off a.2),(16,.si .i64 a.2.length),(17,.si .i64 x.1)],[.cells a.1.ss 148 20 false]⟩)
    (fun s=>(iS s 17,iS s 7))
    (fun x=>0≤x.1∧x.1≤a.2.length∧x.2=sumS a.1 (a.2.take x.1.toNat) i) (fun x=>(a.2.length - x.1).toNat) fun _ _=> .look
   |_=> .look
 |_=> .look
theorem bun_nth {b:Bun} (h:b.ok=true) (k:Nat):0≤nthD [b.a0,b.a1,b.a2,b.a3,b.a4,b.a5] k 0∧nthD [b.a0,b.a1,b.a2,b.a3,b.a4,b.a5] k 0≤4:=by
 have:=Bun.ok_iff.1 h
 match k with
 |0|1|2|3|4|5=>simp[nthD];omega
 |k+6=>simp[nthD]
theorem coef_bd {p:Prob} {r:Int} {o:Off} (h:o.want.ok=true):0≤coefS p r o∧coefS p r o≤4:=by
 unfold coefS
 have h1:=bun_nth h (r - p.classes.length).toNat
 have h2:=bun_nth h (r - p.classes.length - 6).toNat
 (repeat' split)<;>omega
theorem sum_bd {p:Prob} {r:Int}:∀{l:List Off},(∀x∈l,x.want.ok=true)→0≤sumS p l r∧sumS p l r≤4*l.length
 |[],_=>by simp[sumS]
 |x::l,h=>by
  have h1:=@coef_bd p r x (h x (by simp))
  have h2:=@sum_bd p r l fun y hy=>h y (by simp[hy])
  simp only[sumS,List.map_cons,List.sum_cons,List.length_cons] at h2 ⊢
  omega
theorem nthD_mem {α:Type} {l:List α} {i:Nat} {d:α} (h:i<l.length):nthD l i d∈l:=by rw[nthD_eq h];exact List.getElem_mem h
theorem take_nth {α:Type} {l:List α} {i:Int} {d:α} (h0:0≤i) (h:i<l.length):l.take (i+1).toNat=l.take i.toNat++[nthD l i.toNat d]:=by
 rw[show(i+1).toNat=i.toNat+1 from by omega,nthD_eq (by omega),List.take_succ_eq_append_getElem (by omega)]
theorem sum_take {p:Prob} {r:Int} {l:List Off} {i:Int} {d:Off} (h0:0≤i) (h:i<l.length):sumS p (l.take (i+1).toNat) r=sumS p (l.take i.toNat) r+coefS p r (nthD l i.toNat d):=by
 rw[take_nth (d:=d) h0 h]
 simp[sumS]
theorem fits_iff {p:Prob} {l:List Off}:fitsB p l=true↔∀r:Nat,r<nrows p→sumS p l r≤boundS p r:=by
 simp only[fitsB,nrows,List.all_eq_true,List.mem_range,decide_eq_true_eq]
 constructor
 ·intro h r hr;exact h r (by omega)
 ·intro h r hr;exact h r (by omega)
theorem h134:Holds Try.prog r134:=by
 refine con (L:=L2) r134 F134 Λ134 (OwnOK.none _) hL2 (by kernel_rfl) (by kernel_rfl) (fun _=>rfl) ?_
 rintro⟨p,l⟩ ⟨hp,hl,hb⟩
 simp only at hp hl hb
 refine vcOf (let z0:=SV.ptr 0 0 20;let z1:=SV.fn (Fn.func 156) [] [];let z2:=SV.si .i64 (nrows p);let z3:=SObj.cells (Prob.ss p) 148 20 false;let z4:=(↑l.length:Int);let z5:=SV.si .i64 z4;p.classes.length≤8∧((((SV.row SId.off l).same (SV.row SId.off l)∧z0.same z0∧z1.same z1∧z2.same z2∧(SV.il .i64 0).same (SV.si .i64 0)∧True)∧z3.same z3∧True)∧(0:Int)≤(0:Int)∧(0:Int)≤nrows p∧∀(r:Nat),(↑r:Int)<(0:Int)→sumS p l (↑r:Int)≤boundS p (↑r:Int))∧∀(x:Int),let z6:=decide (x<nrows p);let z7:=x+(1:Int);let z8:=SV.si .i64 z7;((0:Int)≤x∧x≤nrows p∧∀(r:Nat),(↑r:Int)<x→sumS p l (↑r:Int)≤boundS p (↑r:Int))→(z6=true→((((SV.row SId.off l).same (SV.row SId.off l)∧z0.same z0∧z1.same z1∧(SV.si .i64 x).same (SV.si .i64 x)∧(SV.il .i64 0).same (SV.si .i64 0)∧z2.same z2∧(SV.si .i64 x).same (SV.si .i64 x)∧(SV.row SId.off l).same (SV.row SId.off l)∧(SV.si .i64 (↑l.length:Int)).same z5∧(SV.il .i64 0).same (SV.si .i64 0)∧True)∧z3.same z3∧True)∧(0:Int)≤(0:Int)∧(0:Int)≤z4∧(0:Int)=sumS p [] x)∧∀(x_1:Int×Int),let z9:=nthD l x_1.fst.toNat SId.off.dflt;let z10:=x_1.snd+coefS p x z9;let z11:=x_1.fst+(1:Int);let z12:=SV.si .i64 x;let z13:=SV.si .i64 z10;let z14:=SV.si .i64 z11;let z15:=decide (boundS p x<x_1.snd);(0:Int)≤x_1.fst∧x_1.fst≤z4∧x_1.snd=sumS p (List.take x_1.fst.toNat l) x→(decide (x_1.fst<z4)=true→(0:Int)≤x_1.fst∧x_1.fst<(↑l.length:Int)∧x_1.fst.toNat<l.length∧(p.classes.length≤8∧(0:Int)≤x∧x<nrows p∧(0:Int)≤z9.bidder∧z9.bidder<(↑p.classes.length:Int))∧inR .i64 z10∧inR .i64 z11∧(((SV.row SId.off l).same (SV.row SId.off l)∧z0.same z0∧z1.same z1∧z12.same z12∧z13.same z13∧z2.same z2∧z12.same z12∧(SV.row SId.off l).same (SV.row SId.off l)∧z5.same z5∧z14.same z14∧True)∧z3.same z3∧True)∧((0:Int)≤z11∧z11≤z4∧z10=sumS p (List.take z11.toNat l) x)∧(z4 - z11).toNat<(z4 - x_1.fst).toNat)∧(decide (x_1.fst<z4)=false→(p.classes.length≤8∧(0:Int)≤x∧x<nrows p)∧(z15=true→(SV.bl false).same (SV.sb (fitsB p l)))∧(z15=false→inR .i64 z7∧(((SV.row SId.off l).same (SV.row SId.off l)∧z0.same z0∧z1.same z1∧z2.same z2∧z8.same z8∧True)∧z3.same z3∧True)∧((0:Int)≤z7∧z7≤nrows p∧∀(r:Nat),(↑r:Int)<z7→sumS p l (↑r:Int)≤boundS p (↑r:Int))∧(nrows p - z7).toNat<(nrows p - x).toNat)))∧(z6=false→(SV.bl true).same (SV.sb (fitsB p l)))) (by kernel_rfl) ?_
 simp only[vcs]
 have hn:nrows p=p.classes.length+12:=rfl
 have ho:∀x∈l,x.want.ok=true:=fun x hx=>(hb x hx).2.2
 refine⟨hp,⟨by omega,by omega,fun r hr=>by omega⟩,?_⟩
 rintro i ⟨hi0,hi1,hi⟩
 refine⟨fun hlt=>⟨⟨by omega,by omega,by simp[sumS]⟩,?_⟩,?_⟩
 ·rintro⟨j,s⟩ ⟨hj0,hj1,hs⟩
  simp only at hj0 hj1 hs ⊢
  have hsb:=@sum_bd p i (l.take j.toNat) fun x hx=>ho x (List.mem_of_mem_take hx)
  have hlen:(l.take j.toNat).length≤l.length:=by simp;omega
  refine⟨fun hjl=>?_,fun hjl=>?_⟩
  ·have hm:=hb _ (nthD_mem (d:=SId.off.dflt) (show j.toNat<l.length by omega))
   have hc:=@coef_bd p i _ hm.2.2
   have hst:=@sum_take p i l j SId.off.dflt hj0 hjl
   refine⟨by omega,by omega,by omega,⟨hp,by omega,by omega,hm.1,hm.2.1⟩,by omega,by omega,⟨by omega,by omega,by omega⟩,by omega⟩
  ·have:j.toNat=l.length:=by omega
   rw[this,List.take_length] at hs
   refine⟨⟨hp,by omega,by omega⟩,fun hgt=>?_,fun hle=>⟨by omega,⟨by omega,by omega,fun r hr=>?_⟩,by omega⟩⟩
   ·symm
    rw[Bool.eq_false_iff]
    intro hf
    have:=fits_iff.1 hf i.toNat (by omega)
    rw[show((i.toNat:Nat):Int)=i from by omega] at this
    omega
   ·by_cases hr2:(r:Int)<i
    ·exact hi r hr2
    ·have:(r:Int)=i:=by omega
     rw[this]
     omega
 ·intro hge
  symm
  exact fits_iff.2 fun r hr=>hi r (by omega)
def L3:List SCtr:=[r134,r146,r156,r157,r158]
theorem hL3:∀c∈L3,Holds Try.prog c:=by
 simp only[L3,List.forall_mem_cons,List.not_mem_nil,false_implies,implies_true,and_true]
 exact⟨h134,h146,h156,h157,h158⟩
def prodOk (p:Prob) (k:Nat):Prop:=
 let c:=nthD [p.cls.a0,p.cls.a1,p.cls.a2,p.cls.a3,p.cls.a4,p.cls.a5] k 0
 let o:=nthD [p.opn.a0,p.opn.a1,p.opn.a2,p.opn.a3,p.opn.a4,p.opn.a5] k 0
 let s:=nthD [p.supply.a0,p.supply.a1,p.supply.a2,p.supply.a3,p.supply.a4,p.supply.a5] k 0
 0≤c∧c≤4∧0≤o∧o≤s∧(c≠0∨o=s)
instance (p:Prob) (k:Nat):Decidable (prodOk p k):=by unfold prodOk;infer_instance
def prodsOk (p:Prob):Bool:=(List.range 6).all fun k=>decide (prodOk p k)
theorem prodOk_iff {p:Prob} {k:Nat}:prodOk p k↔(0≤nthD [p.cls.a0,p.cls.a1,p.cls.a2,p.cls.a3,p.cls.a4,p.cls.a5] k 0∧nthD [p.cls.a0,p.cls.a1,p.cls.a2,p.cls.a3,p.cls.a4,p.cls.a5] k 0≤4∧0≤nthD [p.opn.a0,p.opn.a1,p.opn.a2,p.opn.a3,p.opn.a4,p.opn.a5] k 0∧
  nthD [p.opn.a0,p.opn.a1,p.opn.a2,p.opn.a3,p.opn.a4,p.opn.a5] k 0≤nthD [p.supply.a0,p.supply.a1,p.supply.a2,p.supply.a3,p.supply.a4,p.supply.a5] k 0∧
  (nthD [p.cls.a0,p.cls.a1,p.cls.a2,p.cls.a3,p.cls.a4,p.cls.a5] k 0≠0∨nthD [p.opn.a0,p.opn.a1,p.opn.a2,p.opn.a3,p.opn.a4,p.opn.a5] k 0=nthD [p.supply.a0,p.supply.a1,p.supply.a2,p.supply.a3,p.supply.a4,p.supply.a5] k 0)):=Iff.rfl
attribute [irreducible] prodOk
theorem prods_iff {p:Prob}:prodsOk p=true↔∀k,k<6→prodOk p k:=by simp[prodsOk]
def frameE (p:Prob):Int:=
 if p.supply.ok=false then 4
 else if prodsOk p=false then 4
 else if 8<p.classes.length∨160<p.offers.length then 3
 else if ¬∀c∈p.classes,0≤c∧c≤4 then 4
 else 0
def r118:SCtr:=⟨118,Prob,.one codP,fun p=>True,fun p=> .si .i64 (frameE p)⟩
def Λ118 (p:Prob):Nat→LoopAnn
 |5=> .inv Int (fun k=>⟨[(1,.ptr 0 0 20),(16,.si .i64 k)],[.cells p.ss 148 20 false]⟩) (fun s=>iS s 16) (fun k=>0≤k∧k≤6∧∀j:Nat,j<k→prodOk p j) (fun k=>(6 - k).toNat) fun _ _=> .look
 |14=> .inv Int (fun k=>⟨[(76,.row (.i .i64) p.classes),(77,.si .i64 p.classes.length),(78,.si .i64 k)],[.cells p.ss 148 20 false]⟩) (fun s=>iS s 78)
  (fun k=>0≤k∧k≤p.classes.length∧∀c∈p.classes.take k.toNat,0≤c∧c≤4) (fun k=>(p.classes.length - k).toNat) fun _ _=> .look
 |_=> .look
theorem frame_sup {p:Prob} (h:p.supply.ok=false):frameE p=4:=by simp[frameE,h]
theorem frame_prod {p:Prob} (h:p.supply.ok=true) {k:Nat} (hk:k<6) (hn:¬prodOk p k):frameE p=4:=by
 have:prodsOk p=false:=by
  rw[Bool.eq_false_iff]
  exact fun hh=>hn (prods_iff.1 hh k hk)
 simp[frameE,h,this]
theorem frame_len {p:Prob} (h:p.supply.ok=true) (hp:∀j:Nat,j<6→prodOk p j) (hl:8<p.classes.length∨160<p.offers.length):frameE p=3:=by
 simp[frameE,h,prods_iff.2 hp,hl]
theorem frame_cls {p:Prob} (h:p.supply.ok=true) (hp:∀j:Nat,j<6→prodOk p j) (hl:¬(8<p.classes.length∨160<p.offers.length)) {c:Int} (hc:c∈p.classes) (hn:¬(0≤c∧c≤4)):frameE p=4:=by
 have:¬∀c∈p.classes,0≤c∧c≤4:=fun hh=>hn (hh c hc)
 simp only[frameE,h,prods_iff.2 hp,if_neg hl,this,Bool.true_eq_false,if_false,not_false_iff,if_true]
theorem frame_ok {p:Prob} (h:p.supply.ok=true) (hp:∀j:Nat,j<6→prodOk p j) (hl:¬(8<p.classes.length∨160<p.offers.length)) (hc:∀c∈p.classes,0≤c∧c≤4):frameE p=0:=by
 simp only[frameE,h,prods_iff.2 hp,if_neg hl,Bool.true_eq_false,if_false,if_neg (Classical.not_not.2 hc)]
theorem frame_zero {p:Prob} (h:frameE p=0):p.supply.ok=true∧(∀j:Nat,j<6→prodOk p j)∧p.classes.length≤8∧p.offers.length≤160∧∀c∈p.classes,0≤c∧c≤4:=by
 unfold frameE at h
 split at h
 ·cases h
 ·split at h
  ·cases h
  ·split at h
   ·cases h
   ·split at h
    ·cases h
    ·rename_i h1 h2 h3 h4
     have h4:=Classical.not_not.1 h4
     exact⟨by simpa using h1,prods_iff.1 (by simpa using h2),by omega,by omega,h4⟩
theorem mem_take_next {l:List Int} {i:Int} {P:Int→Prop} (h0:0≤i) (h:i<l.length) (h1:∀c∈l.take i.toNat,P c) (h2:P (nthD l i.toNat 0)):∀c∈l.take (i+1).toNat,P c:=by
 rw[take_nth (d:=0) h0 h]
 intro c hc
 rcases List.mem_append.1 hc with hc|hc
 ·exact h1 c hc
 ·rw[List.mem_singleton.1 hc];exact h2
theorem h118:Holds Try.prog r118:=by
 refine con (L:=L3) r118 F118 Λ118 (OwnOK.none _) hL3 (by kernel_rfl) (by kernel_rfl) (fun _=>rfl) ?_
 intro p _
 refine vcOf (let z0:=if p.supply.ok=true then(0:Int) else(4:Int);let z1:=decide (z0≠(0:Int));let z2:=SV.si .i64 (frameE p);let z3:=SV.ptr 0 0 20;let z4:=SV.il .i64 0;let z5:=SV.row (SId.i .i64) p.classes;let z6:=SObj.cells [SV.si .i64 p.supply.a0,SV.si .i64 p.supply.a1,SV.si .i64 p.supply.a2,SV.si .i64 p.supply.a3,SV.si .i64 p.supply.a4,SV.si .i64 p.supply.a5,SV.si .i64 p.opn.a0,SV.si .i64 p.opn.a1,SV.si .i64 p.opn.a2,SV.si .i64 p.opn.a3,SV.si .i64 p.opn.a4,SV.si .i64 p.opn.a5,SV.si .i64 p.cls.a0,SV.si .i64 p.cls.a1,SV.si .i64 p.cls.a2,SV.si .i64 p.cls.a3,SV.si .i64 p.cls.a4,SV.si .i64 p.cls.a5,z5,SV.row SId.off p.offers] 148 20 false;let z7:=[p.cls.a0,p.cls.a1,p.cls.a2,p.cls.a3,p.cls.a4,p.cls.a5];let z8:=[p.opn.a0,p.opn.a1,p.opn.a2,p.opn.a3,p.opn.a4,p.opn.a5];let z9:=[p.supply.a0,p.supply.a1,p.supply.a2,p.supply.a3,p.supply.a4,p.supply.a5];let z10:=(↑p.classes.length:Int);let z11:=decide ((8:Int)<z10);let z12:=decide ((160:Int)<(↑p.offers.length:Int));let z13:=(↑p.classes.length:Int);let z14:=SV.si .i64 z13;True∧(z1=true→(SV.si .i64 z0).same z2)∧(z1=false→(((z3.same z3∧z4.same (SV.si .i64 0)∧True)∧z6.same z6∧True)∧(0:Int)≤(0:Int)∧(0:Int)≤(6:Int)∧∀(j:Nat),(↑j:Int)<(0:Int)→prodOk p j)∧∀(x:Int),let z15:=decide (x<(6:Int));let z16:=nthD z7 x.toNat (0:Int);let z17:=decide (z16<(0:Int));let z18:=decide ((4:Int)<z16);let z19:=nthD z8 x.toNat (0:Int);let z20:=decide (z19<(0:Int));let z21:=nthD z9 x.toNat (0:Int);let z22:=decide (z16=(0:Int));let z23:=x+(1:Int);let z24:=SV.si .i64 z23;((0:Int)≤x∧x≤(6:Int)∧∀(j:Nat),(↑j:Int)<x→prodOk p j)→(z15=true→(0:Int)≤x∧x<(6:Int)∧x.toNat<6∧(0:Int)≤x∧x<(6:Int)∧x.toNat<6∧(z17=true→(SV.il .i64 4).same z2)∧(z17=false→(z18=true→(SV.il .i64 4).same z2)∧(z18=false→(z20=true→(SV.il .i64 4).same z2)∧(z20=false→(0:Int)≤x∧x<(6:Int)∧x.toNat<6∧(decide (z21<z19)=true→(SV.il .i64 4).same z2)∧(decide (z21<z19)=false→(z22=true→(0:Int)≤x∧x<(6:Int)∧x.toNat<6∧(decide (z19≠z21)=true→(SV.il .i64 4).same z2)∧(decide (z19≠z21)=false→inR .i64 z23∧((z3.same z3∧z24.same z24∧True)∧z6.same z6∧True)∧((0:Int)≤z23∧z23≤(6:Int)∧∀(j:Nat),(↑j:Int)<z23→prodOk p j)∧((6:Int) - z23).toNat<((6:Int) - x).toNat))∧(z22=false→inR .i64 z23∧((z3.same z3∧z24.same z24∧True)∧z6.same z6∧True)∧((0:Int)≤z23∧z23≤(6:Int)∧∀(j:Nat),(↑j:Int)<z23→prodOk p j)∧((6:Int) - z23).toNat<((6:Int) - x).toNat))))))∧(z15=false→(z11=true→(SV.il .i64 3).same z2)∧(z11=false→(z12=true→(SV.il .i64 3).same z2)∧(z12=false→(((z5.same z5∧(SV.si .i64 z10).same z14∧z4.same (SV.si .i64 0)∧True)∧z6.same z6∧True)∧(0:Int)≤(0:Int)∧(0:Int)≤z13∧∀(c:Int),c∈[]→(0:Int)≤c∧c≤(4:Int))∧∀(x:Int),let z25:=nthD p.classes x.toNat (0:Int);let z26:=decide (z25<(0:Int));let z27:=decide ((4:Int)<z25);let z28:=x+(1:Int);let z29:=SV.si .i64 z28;((0:Int)≤x∧x≤z13∧∀(c:Int),c∈List.take x.toNat p.classes→(0:Int)≤c∧c≤(4:Int))→(decide (x<z13)=true→(0:Int)≤x∧x<z10∧x.toNat<p.classes.length∧(z26=true→(SV.il .i64 4).same z2)∧(z26=false→(z27=true→(SV.il .i64 4).same z2)∧(z27=false→inR .i64 z28∧((z5.same z5∧z14.same z14∧z29.same z29∧True)∧z6.same z6∧True)∧((0:Int)≤z28∧z28≤z13∧∀(c:Int),c∈List.take z28.toNat p.classes→(0:Int)≤c∧c≤(4:Int))∧(z13 - z28).toNat<(z13 - x).toNat)))∧(decide (x<z13)=false→z4.same z2)))))) (by kernel_rfl) ?_
 simp only[vcs]
 by_cases hs:Bun.ok p.supply=true
 ·simp only[hs,if_true]
  refine⟨fun h=>absurd rfl h,fun _=>⟨⟨by omega,by omega,fun j hj=>by omega⟩,?_⟩⟩
  rintro k ⟨hk0,hk1,hk⟩
  refine⟨fun hlt=>?_,fun hge=>?_⟩
  ·have bad:¬prodOk p k.toNat→(4:Int)=frameE p:=fun h=>(frame_prod hs (by omega) h).symm
   have nxt:prodOk p k.toNat→∀(j:Nat),(j:Int)<k+1→prodOk p j:=fun h j hj=>by
    by_cases hj2:(j:Int)<k
    ·exact hk j hj2
    ·rw[show j=k.toNat from by omega];exact h
   repeat' (first|refine And.intro ?_ ?_|intro _)
   all_goals first
    |omega
    |exact bad fun hh=>by have h2:=prodOk_iff.1 hh;omega
    |exact nxt (prodOk_iff.2 (by omega)) _ (by assumption)
  ·have hall:∀j:Nat,j<6→prodOk p j:=fun j hj=>hk j (by omega)
   refine⟨fun h=>(frame_len hs hall (.inl (by omega))).symm,fun h8=>⟨fun h=>(frame_len hs hall (.inr (by omega))).symm,fun h160=>⟨⟨by omega,by omega,by simp⟩,?_⟩⟩⟩
   rintro i ⟨hi0,hi1,hi⟩
   refine⟨fun hlt=>?_,fun hge=>?_⟩
   ·have hm:=nthD_mem (d:=0) (show i.toNat<p.classes.length by omega)
    refine⟨by omega,by omega,by omega,fun h=>(frame_cls hs hall (by omega) hm (by omega)).symm,fun h1=>⟨fun h=>(frame_cls hs hall (by omega) hm (by omega)).symm,fun h2=>⟨by omega,⟨by omega,by omega,?_⟩,by omega⟩⟩⟩
    exact mem_take_next hi0 hlt hi (by omega)
   ·rw[show i.toNat=p.classes.length from by omega,List.take_length] at hi
    exact(frame_ok hs hall (by omega) hi).symm
 ·have hs2:Bun.ok p.supply=false:=by simpa using hs
  simp only[hs2,Bool.false_eq_true,if_false]
  exact⟨fun _=>(frame_sup hs2).symm,fun h=>absurd (by decide) h⟩
def simpleE (n:Int) (o:Off):Int:=
 if o.bidder<0∨n≤o.bidder then 6 else if o.value<1∨1000000<o.value then 4 else if o.want.ok then 0 else 4
def r147:SCtr:=⟨147,Int×Off,.cons (codI .i64) (.one (codE .off)),fun p=>True,fun p=> .si .i64 (simpleE p.1 p.2)⟩
theorem h147:Holds Try.prog r147:=by
 refine con (L:=L3) r147 F147 (fun p=>fun _=> .look) (OwnOK.none _) hL3 (by kernel_rfl) (by kernel_rfl) (fun _=>rfl) ?_
 rintro⟨n,x⟩ _
 refine vcOf (let z0:=decide (x.bidder<(0:Int));let z1:=SV.si .i64 (simpleE n x);let z2:=decide (n≤x.bidder);let z3:=decide (x.value<(1:Int));let z4:=decide ((1000000:Int)<x.value);(z0=true→(SV.il .i64 6).same z1)∧(z0=false→(z2=true→(SV.il .i64 6).same z1)∧(z2=false→(z3=true→(SV.il .i64 4).same z1)∧(z3=false→(z4=true→(SV.il .i64 4).same z1)∧(z4=false→True∧(SV.si .i64 (if x.want.ok=true then(0:Int) else(4:Int))).same z1))))) (by kernel_rfl) ?_
 simp only[vcs]
 repeat' (first|refine And.intro ?_ ?_|intro _)
 all_goals first
  |trivial
  |omega
  |(simp only[simpleE];(repeat' split)<;>first|rfl|omega|simp_all)
def offerE (p:Prob) (o:Off):Int:=
 if simpleE p.classes.length o≠0 then simpleE p.classes.length o else if o.want=Bun.zero then 4 else if fitsB p [o]=false then 14 else 0
def r119:SCtr:=⟨119,Prob×Off,.cons codP (.one (codE .off)),fun a=>a.1.classes.length≤8,fun a=> .si .i64 (offerE a.1 a.2)⟩
def L4:List SCtr:=r147::L3
theorem hL4:∀c∈L4,Holds Try.prog c:=by
 simp only[L4,List.forall_mem_cons]
 exact⟨h147,hL3⟩
theorem simple_zero {n:Int} {o:Off} (h:simpleE n o=0):0≤o.bidder∧o.bidder<n∧1≤o.value∧o.value≤1000000∧o.want.ok=true:=by
 unfold simpleE at h
 split at h
 ·cases h
 ·split at h
  ·cases h
  ·split at h
   ·exact⟨by omega,by omega,by omega,by omega,by assumption⟩
   ·cases h
theorem h119:Holds Try.prog r119:=by
 refine con (L:=L4) r119 F119 (fun p=>fun _=> .look) (OwnOK.none _) hL4 (by kernel_rfl) (by kernel_rfl) (fun _=>rfl) ?_
 rintro⟨p,x⟩ (hp:p.classes.length≤8)
 refine vcOf (let z0:=simpleE (↑p.classes.length:Int) x;let z1:=decide (z0≠(0:Int));let z2:=SV.si .i64 (offerE p x);let z3:=decide (x.want.a0=(0:Int))&&(decide (x.want.a1=(0:Int))&&(decide (x.want.a2=(0:Int))&&(decide (x.want.a3=(0:Int))&&(decide (x.want.a4=(0:Int))&&(decide (x.want.a5=(0:Int))&&true)))));True∧(z1=true→(SV.si .i64 z0).same z2)∧(z1=false→(z3=true→(SV.il .i64 4).same z2)∧(z3=false→(p.classes.length≤8∧1≤1000∧∀(x_1:Off),x_1∈[x]→(0:Int)≤x_1.bidder∧x_1.bidder<(↑p.classes.length:Int)∧x_1.want.ok=true)∧((!fitsB p [x])=true→(SV.il .i64 14).same z2)∧((!fitsB p [x])=false→(SV.il .i64 0).same z2)))) (by kernel_rfl) ?_
 conv=>zeta
 have hw:(decide (x.want.a0=0)&&(decide (x.want.a1=0)&&(decide (x.want.a2=0)&&(decide (x.want.a3=0)&&(decide (x.want.a4=0)&&decide (x.want.a5=0))))))=decide (x.want=Bun.zero):=by
  rw[Bool.eq_iff_iff]
  simp[bun_eq,Bun.zero]
 simp only[Bool.and_true,hw]
 simp only[vcs]
 refine⟨fun h=>by simp only[offerE,if_pos h],fun h=>?_⟩
 have hz:simpleE p.classes.length x=0:=Classical.not_not.1 h
 have hx:=simple_zero hz
 refine⟨fun h3=>by simp[offerE,hz,h3],fun h3=>⟨⟨hp,by omega,?_⟩,fun h4=>?_,fun h4=>?_⟩⟩
 ·intro y hy
  rw[List.mem_singleton.1 hy]
  exact⟨hx.1,hx.2.1,hx.2.2.2.2⟩
 ·simp[offerE,hz,h3,h4]
 ·simp[offerE,hz,h3,h4]
def L5:List SCtr:=r118::r119::L4
theorem hL5:∀c∈L5,Holds Try.prog c:=by
 simp only[L5,List.forall_mem_cons]
 exact⟨h118,h119,hL4⟩
def Off.key (o:Off):BKey:=⟨o.bidder,o.want⟩
def checkL (p:Prob) (seen:List BKey):List Off→Int
 |[]=>0
 |o::r=>if offerE p o≠0 then offerE p o else if o.key∈seen then 7 else checkL p (seen++[o.key]) r
def checkE (p:Prob):Int:=if frameE p≠0 then frameE p else checkL p [] p.offers
def r79:SCtr:=⟨79,Prob,.one codP,fun p=>True,fun p=> .si .i64 (checkE p)⟩
def Λ79 (p:Prob):Nat→LoopAnn
 |7=> .inv Int (fun i=>⟨[(3,.ptr 1 0 20),(5,.mp 2),(19,.row .off p.offers),(20,.si .i64 p.offers.length),(21,.si .i64 i)],
   [.cells p.ss 27 20 false,.cells p.ss 148 20 false,.map .key .b true ((p.offers.take i.toNat).map fun o=>(o.key,true)) ([0,0,0,0,0,0,0],true) true]⟩) (fun s=>iS s 21)
  (fun i=>0≤i∧i≤p.offers.length∧checkL p [] p.offers=checkL p ((p.offers.take i.toNat).map Off.key) (p.offers.drop i.toNat)) (fun i=>(p.offers.length - i).toNat) fun _ _=> .look
 |_=> .look
theorem drop_nth {α:Type} {l:List α} {i:Int} {d:α} (h0:0≤i) (h:i<l.length):l.drop i.toNat=nthD l i.toNat d::l.drop (i+1).toNat:=by
 rw[show(i+1).toNat=i.toNat+1 from by omega,nthD_eq (by omega),List.drop_eq_getElem_cons (by omega)]
theorem find_keys (k:BKey):∀(l:List Off),(findT .key .b k (l.map fun o=>(o.key,true))).getD false=decide (k∈l.map Off.key)
 |[]=>by simp[findT]
 |o::l=>by
  have:=find_keys k l
  simp only[findT] at this ⊢
  rw[List.map_cons,List.find?_cons]
  by_cases h:o.key=k
  ·simp[h]
  ·simp only[h,decide_false,List.map_cons,List.mem_cons]
   rw[this]
   have:¬k=o.key:=fun e=>h e.symm
   simp[this]
theorem omap_same {sk sv:SId} {ka:Bool} {es es':List (sk.T×sv.T)} {kt:List Nat×Bool} {pu:Bool} (h:es=es'):(SObj.map sk sv ka es kt pu).same (.map sk sv ka es' kt pu):=by rw[h];rfl
theorem set_keys {k:BKey} {l:List Off} (h:k∉l.map Off.key):setT .key .b k true (l.map fun o=>(o.key,true))=(l.map fun o=>(o.key,true))++[(k,true)]:=
 setT_none fun p hp=>by
  obtain⟨o,ho,rfl⟩:=List.mem_map.1 hp
  rintro rfl
  exact h (List.mem_map.2 ⟨o,ho,rfl⟩)
theorem h79:Holds Try.prog r79:=by
 refine con (L:=L5) r79 F79 Λ79 (OwnOK.none _) hL5 (by kernel_rfl) (by kernel_rfl) (fun _=>rfl) ?_
 intro p _
 refine vcOf (let z0:=decide (frameE p≠(0:Int));let z1:=SV.si .i64 (checkE p);let z2:=SV.ptr 1 0 20;let z3:=SV.row SId.off p.offers;let z4:=(↑p.offers.length:Int);let z5:=(↑p.offers.length:Int);let z6:=SV.si .i64 z5;let z7:=SV.il .i64 0;let z8:=[SV.si .i64 p.supply.a0,SV.si .i64 p.supply.a1,SV.si .i64 p.supply.a2,SV.si .i64 p.supply.a3,SV.si .i64 p.supply.a4,SV.si .i64 p.supply.a5,SV.si .i64 p.opn.a0,SV.si .i64 p.opn.a1,SV.si .i64 p.opn.a2,SV.si .i64 p.opn.a3,SV.si .i64 p.opn.a4,SV.si .i64 p.opn.a5,SV.si .i64 p.cls.a0,SV.si .i64 p.cls.a1,SV.si .i64 p.cls.a2,SV.si .i64 p.cls.a3,SV.si .i64 p.cls.a4,SV.si .i64 p.cls.a5,SV.row (SId.i .i64) p.classes,z3];let z9:=SObj.cells z8 27 20 false;let z10:=SObj.cells z8 148 20 false;let z11:=([0,0,0,0,0,0,0],true);let z12:=SObj.map SId.key SId.b true [] z11 true;let z13:=checkL p [] p.offers;let z14:=SId.off.dflt;True∧(z0=true→(SV.si .i64 (frameE p)).same z1)∧(z0=false→(((z2.same z2∧(SV.mp 2).same (SV.mp 2)∧z3.same z3∧(SV.si .i64 z4).same z6∧z7.same (SV.si .i64 0)∧True)∧z9.same z9∧z10.same z10∧z12.same z12∧True)∧(0:Int)≤(0:Int)∧(0:Int)≤z5∧z13=z13)∧∀(x:Int),let z15:=List.take x.toNat p.offers;let z16:=nthD p.offers x.toNat z14;let z17:=decide (offerE p z16≠(0:Int));let z18:=BKey.mk z16.bidder z16.want;let z19:=List.map (fun o ↦(o.key,true)) z15;let z20:=(findT SId.key SId.b z18 z19).getD false;let z21:=x+(1:Int);let z22:=SV.si .i64 z21;let z23:=List.take z21.toNat p.offers;(0:Int)≤x∧x≤z5∧z13=checkL p (List.map Off.key z15) (List.drop x.toNat p.offers)→(decide (x<z5)=true→(0:Int)≤x∧x<z4∧x.toNat<p.offers.length∧p.classes.length≤8∧(z17=true→(SV.si .i64 (offerE p z16)).same z1)∧(z17=false→(z20=true→(SV.il .i64 7).same z1)∧(z20=false→inR .i64 z21∧((z2.same z2∧(SV.mp 2).same (SV.mp 2)∧z3.same z3∧z6.same z6∧z22.same z22∧True)∧z9.same z9∧z10.same z10∧(SObj.map SId.key SId.b true (setT SId.key SId.b z18 true z19) z11 true).same (SObj.map SId.key SId.b true (List.map (fun o ↦(o.key,true)) z23) z11 true)∧True)∧((0:Int)≤z21∧z21≤z5∧z13=checkL p (List.map Off.key z23) (List.drop z21.toNat p.offers))∧(z5 - z21).toNat<(z5 - x).toNat)))∧(decide (x<z5)=false→z7.same z1))) (by kernel_rfl) ?_
 simp only[vcs]
 refine⟨fun h=>by simp[checkE,h],fun h=>?_⟩
 have hz:frameE p=0:=Classical.not_not.1 h
 obtain⟨f1,f2,f3,f4,f5⟩:=frame_zero hz
 refine⟨⟨by omega,by omega⟩,?_⟩
 rintro i ⟨hi0,hi1,hi⟩
 refine⟨fun hlt=>?_,fun hge=>?_⟩
 ·rw[drop_nth (d:=SId.off.dflt) hi0 hlt] at hi
  generalize hx:nthD p.offers i.toNat SId.off.dflt=x at hi ⊢
  refine⟨by omega,by omega,by omega,f3,fun he=>?_,fun he=>?_⟩
  ·simp only[checkL,if_pos he] at hi
   simp[checkE,hz,hi]
  ·simp only[checkL,if_neg he] at hi
   have hk:(⟨x.bidder,x.want⟩:BKey)=x.key:=rfl
   simp only[hk]
   refine⟨fun hm=>?_,fun hm=>⟨by omega,?_,⟨by omega,by omega,?_⟩,by omega⟩⟩
   ·have hm2:=of_decide_eq_true ((find_keys _ _).symm.trans hm)
    rw[if_pos hm2] at hi
    simp[checkE,hz,hi]
   ·have hm2:=of_decide_eq_false ((find_keys _ _).symm.trans hm)
    apply omap_same
    rw[set_keys hm2,take_nth (d:=SId.off.dflt) hi0 hlt,hx]
    simp
   ·have hm2:=of_decide_eq_false ((find_keys _ _).symm.trans hm)
    rw[if_neg hm2] at hi
    rw[hi,take_nth (d:=SId.off.dflt) hi0 hlt,hx]
    simp
 ·rw[show i.toNat=p.offers.length from by omega,List.drop_length] at hi
  simp only[checkL] at hi
  simp[checkE,hz,hi]
def pickGo (l:List Off) (last:Int):List Int→Option (List Off)
 |[]=>some []
 |i::r=>if i≤last∨l.length≤i then none else(pickGo l i r).map (nthD l i.toNat SId.off.dflt::·)
def pickOk (p:Prob) (c:List Int):Bool:=(pickGo p.offers (-1) c).isSome
def pickL (p:Prob) (c:List Int):List Off:=(pickGo p.offers (-1) c).getD []
def r133:SCtr:=⟨133,Prob×List Int,.cons codP (.one (codR (.i .i64))),fun a=>a.2.length≤9223372036854775807∧a.1.offers.length≤1000,fun a=> .tup [.row .off (pickL a.1 a.2),.sb (pickOk a.1 a.2)]⟩
def Λ133 (a:Prob×List Int):Nat→LoopAnn
 |4=> .inv (Int×Int×List Off) (fun x=>⟨[(2,.ptr 0 0 20),(6,.ow 1 x.2.2.length 8),(7,.si .i64 x.2.1),(10,.row (.i .i64) a.2),(11,.si .i64 a.2.length),(12,.si .i64 x.1)],
   [.cells a.1.ss 27 20 false,.row .off x.2.2 43 true]⟩) (fun s=>(iS s 12,iS s 7,oS .off s 1))
  (fun x=>0≤x.1∧x.1≤a.2.length∧(x.2.2.length≤x.2.1+1∧x.2.1<1000)∧ -1≤x.2.1∧pickGo a.1.offers (-1) a.2=(pickGo a.1.offers x.2.1 (a.2.drop x.1.toNat)).map (x.2.2++·)) (fun x=>(a.2.length - x.1).toNat) fun _ _=> .look
 |_=> .look
theorem h133:Holds Try.prog r133:=by
 refine con (L:=L5) r133 F133 Λ133 (OwnOK.none _) hL5 (by kernel_rfl) (by kernel_rfl) (fun _=>rfl) ?_
 rintro⟨p,c⟩ ⟨hc,hof⟩
 have hc:c.length≤9223372036854775807:=hc
 have hof:p.offers.length≤1000:=hof
 refine vcOf (let z0:=SV.ptr 0 0 20;let z1:=SV.ow 1 0 8;let z2:=SId.i .i64;let z3:=(↑c.length:Int);let z4:=SV.si .i64 z3;let z5:=SObj.cells [SV.si .i64 p.supply.a0,SV.si .i64 p.supply.a1,SV.si .i64 p.supply.a2,SV.si .i64 p.supply.a3,SV.si .i64 p.supply.a4,SV.si .i64 p.supply.a5,SV.si .i64 p.opn.a0,SV.si .i64 p.opn.a1,SV.si .i64 p.opn.a2,SV.si .i64 p.opn.a3,SV.si .i64 p.opn.a4,SV.si .i64 p.opn.a5,SV.si .i64 p.cls.a0,SV.si .i64 p.cls.a1,SV.si .i64 p.cls.a2,SV.si .i64 p.cls.a3,SV.si .i64 p.cls.a4,SV.si .i64 p.cls.a5,SV.row z2 p.classes,SV.row SId.off p.offers] 27 20 false;let z6:=SObj.row SId.off [] 43 true;let z7:=pickGo p.offers (-1:Int) c;let z8:=SV.tup [SV.row SId.off (pickL p c),SV.sb (pickOk p c)];let z9:=(↑p.offers.length:Int);(((z0.same z0∧z1.same z1∧(SV.il .i64 (-1:Int)).same (SV.si .i64 (-1:Int))∧(SV.row z2 c).same (SV.row z2 c)∧(SV.si .i64 (↑c.length:Int)).same z4∧(SV.il .i64 0).same (SV.si .i64 0)∧True)∧z5.same z5∧z6.same z6∧True)∧(0:Int)≤(0:Int)∧(0:Int)≤z3∧((0:Int)≤(0:Int)∧(-1:Int)<(1000:Int))∧(-1:Int)≤(-1:Int)∧z7=Option.map (fun x ↦((0:Int),(-1:Int),[]).snd.snd++x) z7)∧∀(x:Int×Int×List Off),let z10:=nthD c x.fst.toNat (0:Int);let z11:=decide (z10≤x.snd.fst);let z12:=x.snd.snd.length+1;let z13:=x.fst+(1:Int);let z14:=x.snd.snd++[nthD p.offers z10.toNat SId.off.dflt];let z15:=SV.si .i64 z10;let z16:=SV.si .i64 z13;let z17:=SObj.row SId.off z14 43 true;(0:Int)≤x.fst∧x.fst≤z3∧((↑x.snd.snd.length:Int)≤x.snd.fst+(1:Int)∧x.snd.fst<(1000:Int))∧(-1:Int)≤x.snd.fst∧z7=Option.map (fun x_1 ↦x.snd.snd++x_1) (pickGo p.offers x.snd.fst (List.drop x.fst.toNat c))→(decide (x.fst<z3)=true→(0:Int)≤x.fst∧x.fst<(↑c.length:Int)∧x.fst.toNat<c.length∧(z11=true→(SV.tup [SV.row z2 [],SV.bl false]).same z8)∧(z11=false→(decide (z9≤z10)=true→(SV.tup [SV.row z2 [],SV.bl false]).same z8)∧(decide (z9≤z10)=false→(0:Int)≤z10∧z10<z9∧z10.toNat<p.offers.length∧x.snd.snd.length=x.snd.snd.length∧z12*64≤140737488355328∧z12≤1000000000000∧inR .i64 z13∧((z0.same z0∧(SV.ow 1 z14.length 8).same (SV.ow 1 z14.length 8)∧z15.same z15∧(SV.row z2 c).same (SV.row z2 c)∧z4.same z4∧z16.same z16∧True)∧z5.same z5∧z17.same z17∧True)∧((0:Int)≤z13∧z13≤z3∧((↑z14.length:Int)≤z10+(1:Int)∧z10<(1000:Int))∧(-1:Int)≤z10∧z7=Option.map (fun x ↦(z13,z10,z14).snd.snd++x) (pickGo p.offers z10 (List.drop z13.toNat c)))∧(z3 - z13).toNat<(z3 - x.fst).toNat)))∧(decide (x.fst<z3)=false→x.snd.snd.length=x.snd.snd.length∧(SV.tup [SV.row SId.off x.snd.snd,SV.bl true]).same z8)) (by kernel_rfl) ?_
 simp only[vcs]
 have hrow:∀{l:List Off},l=[]→(SV.row (.i .i64) []).same (SV.row .off l):=by rintro l rfl;exact same_nil.2 trivial
 refine⟨⟨by omega,by omega,by omega,by simp⟩,?_⟩
 rintro⟨i,last,out⟩ ⟨hi0,hi1,hlen,hla,hi⟩
 simp only at hi0 hi1 hlen hla hi ⊢
 refine⟨fun hlt=>?_,fun hge=>?_⟩
 ·rw[drop_nth (d:=0) hi0 hlt] at hi
  generalize hx:nthD c i.toNat 0=x at hi ⊢
  simp only[pickGo] at hi
  refine⟨by omega,by omega,by omega,fun h1=>?_,fun h1=>⟨fun h2=>?_,fun h2=>?_⟩⟩
  ·rw[if_pos (.inl h1)] at hi
   exact⟨hrow (by simp[pickL,hi]),by simp[pickOk,hi]⟩
  ·rw[if_pos (.inr (by omega))] at hi
   exact⟨hrow (by simp[pickL,hi]),by simp[pickOk,hi]⟩
  ·rw[if_neg (by omega)] at hi
   simp only[List.length_append,List.length_singleton]
   refine⟨by omega,by omega,by omega,by omega,by omega,by omega,⟨by omega,by omega,by omega,by omega,?_⟩,by omega⟩
   rw[hi,Option.map_map]
   congr 1
   funext r
   simp
 ·rw[show i.toNat=c.length from by omega,List.drop_length] at hi
  simp only[pickGo,Option.map_some,List.append_nil] at hi
  exact⟨by simp[pickL,hi],by simp[pickOk,hi]⟩
def L6:List SCtr:=r79::r133::L5
theorem hL6:∀c∈L6,Holds Try.prog c:=by
 simp only[L6,List.forall_mem_cons]
 exact⟨h79,h133,hL5⟩
def feasE (p:Prob) (c:List Int):Int:=if checkE p≠0 then checkE p else if pickOk p c=false then 4 else if fitsB p (pickL p c)=false then 14 else 0
def r100:SCtr:=⟨100,Prob×List Int,.cons codP (.one (codR (.i .i64))),fun a=>a.2.length≤9223372036854775807,fun a=> .si .i64 (feasE a.1 a.2)⟩
theorem checkL_mem {p:Prob}:∀{l:List Off} {seen:List BKey},checkL p seen l=0→∀x∈l,offerE p x=0
 |[],_,_=>by simp
 |o::r,seen,h=>by
  simp only[checkL] at h
  split at h
  ·rename_i h1;exact absurd h h1
  ·rename_i h1
   split at h
   ·cases h
   ·intro x hx
    rcases List.mem_cons.1 hx with rfl|hx
    ·exact Classical.not_not.1 h1
    ·exact checkL_mem h x hx
theorem check_zero {p:Prob} (h:checkE p=0):frameE p=0∧∀x∈p.offers,offerE p x=0:=by
 unfold checkE at h
 split at h
 ·rename_i h1;exact absurd h h1
 ·rename_i h1;exact⟨Classical.not_not.1 h1,checkL_mem h⟩
theorem offer_zero {p:Prob} {o:Off} (h:offerE p o=0):simpleE p.classes.length o=0∧o.want≠Bun.zero∧fitsB p [o]=true:=by
 unfold offerE at h
 split at h
 ·rename_i h1;exact absurd h h1
 ·rename_i h1
  split at h
  ·cases h
  ·split at h
   ·cases h
   ·rename_i h2 h3
    exact⟨Classical.not_not.1 h1,h2,by simpa using h3⟩
theorem pick_len {l:List Off}:∀{c:List Int} {last:Int} {r:List Off}, -1≤last→pickGo l last c=some r→r.length+last+1≤l.length∨r=[]
 |[],last,r,_,h=>by simp[pickGo] at h;exact .inr h
 |i::c,last,r,hl,h=>by
  simp only[pickGo] at h
  split at h
  ·cases h
  ·rename_i h1
   obtain⟨r',h2,rfl⟩:=Option.map_eq_some_iff.1 h
   have:=pick_len (by omega) h2
   left
   simp only[List.length_cons]
   rcases this with h3|rfl
   ·omega
   ·simp;omega
theorem pick_mem {l:List Off}:∀{c:List Int} {last:Int} {r:List Off}, -1≤last→pickGo l last c=some r→∀x∈r,x∈l
 |[],last,r,_,h=>by simp[pickGo] at h;subst h;simp
 |i::c,last,r,hl,h=>by
  simp only[pickGo] at h
  split at h
  ·cases h
  ·rename_i h1
   obtain⟨r',h2,rfl⟩:=Option.map_eq_some_iff.1 h
   intro x hx
   rcases List.mem_cons.1 hx with rfl|hx
   ·exact nthD_mem (by omega)
   ·exact pick_mem (by omega) h2 x hx
theorem h100:Holds Try.prog r100:=by
 refine con (L:=L6) r100 F100 (fun p=>fun _=> .look) (OwnOK.none _) hL6 (by kernel_rfl) (by kernel_rfl) (fun _=>rfl) ?_
 rintro⟨p,c⟩ (hc:c.length≤9223372036854775807)
 refine vcOf (let z0:=decide (checkE p≠(0:Int));let z1:=SV.si .i64 (feasE p c);let z2:=!fitsB p (pickL p c);True∧(z0=true→(SV.si .i64 (checkE p)).same z1)∧(z0=false→(c.length≤9223372036854775807∧p.offers.length≤1000)∧((!pickOk p c)=true→(SV.il .i64 4).same z1)∧((!pickOk p c)=false→(p.classes.length≤8∧(pickL p c).length≤1000∧∀(x:Off),x∈pickL p c→(0:Int)≤x.bidder∧x.bidder<(↑p.classes.length:Int)∧x.want.ok=true)∧(z2=true→(SV.il .i64 14).same z1)∧(z2=false→(SV.il .i64 0).same z1)))) (by kernel_rfl) ?_
 simp only[vcs]
 refine⟨fun h=>by simp[feasE,h],fun h=>?_⟩
 have hz:checkE p=0:=Classical.not_not.1 h
 obtain⟨hf,ho⟩:=check_zero hz
 obtain⟨f1,f2,f3,f4,f5⟩:=frame_zero hf
 refine⟨⟨hc,by omega⟩,fun h1=>by simp[feasE,hz,h1],fun h1=>⟨⟨f3,?_,?_⟩,fun h2=>by simp[feasE,hz,h1,h2],fun h2=>by simp[feasE,hz,h1,h2]⟩⟩
 ·unfold pickOk at h1
  obtain⟨r,hr⟩:=Option.isSome_iff_exists.1 h1
  have:=pick_len (by omega) hr
  simp only[pickL,hr,Option.getD_some]
  rcases this with h3|rfl
  ·omega
  ·simp
 ·unfold pickOk at h1
  obtain⟨r,hr⟩:=Option.isSome_iff_exists.1 h1
  simp only[pickL,hr,Option.getD_some]
  intro x hx
  have hs:=simple_zero (offer_zero (ho x (pick_mem (by omega) hr x hx))).1
  exact⟨hs.1,hs.2.1,hs.2.2.2.2⟩
def L7:List SCtr:=r100::L6
theorem hL7:∀c∈L7,Holds Try.prog c:=by
 simp only[L7,List.forall_mem_cons]
 exact⟨h100,hL6⟩
def Bun.sub (a b:Bun):Bun:=⟨a.a0 - b.a0,a.a1 - b.a1,a.a2 - b.a2,a.a3 - b.a3,a.a4 - b.a4,a.a5 - b.a5⟩
def Bun.meet (a b:Bun):Bun:=⟨min a.a0 b.a0,min a.a1 b.a1,min a.a2 b.a2,min a.a3 b.a3,min a.a4 b.a4,min a.a5 b.a5⟩
def Bun.le (a b:Bun):Bool:=decide (a.a0≤b.a0)&&decide (a.a1≤b.a1)&&decide (a.a2≤b.a2)&&decide (a.a3≤b.a3)&&decide (a.a4≤b.a4)&&decide (a.a5≤b.a5)
theorem Bun.le_iff {a b:Bun}:a.le b=true↔a.a0≤b.a0∧a.a1≤b.a1∧a.a2≤b.a2∧a.a3≤b.a3∧a.a4≤b.a4∧a.a5≤b.a5:=by
 simp[Bun.le,and_assoc]
theorem min_left {x y:Int}:min x y=x↔x≤y:=by
 rw[Int.min_def]
 split<;>omega
theorem same_agg {a b:List SV}:(SV.agg a).same (.agg b)↔gL a=gL b:=by simp[SV.same,SV.g]
def r163:SCtr:=⟨163,Bun×Bun,.cons (codE .bun) (.one (codE .bun)),fun _=>True,fun a=> .agg (encS .bun (a.1.meet a.2))⟩
theorem h163:Holds Try.prog r163:=by
 refine con (L:=[]) r163 F163 (fun _=>fun _=> .unroll 7) (OwnOK.none _) (by simp) (by kernel_rfl) (by kernel_rfl) (fun _=>rfl) ?_
 rintro⟨a,b⟩ _
 refine vcOf ((SV.agg [SV.si .i64 (min a.a0 b.a0),SV.si .i64 (min a.a1 b.a1),SV.si .i64 (min a.a2 b.a2),SV.si .i64 (min a.a3 b.a3),SV.si .i64 (min a.a4 b.a4),SV.si .i64 (min a.a5 b.a5)]).same (SV.agg [SV.si .i64 (a.meet b).a0,SV.si .i64 (a.meet b).a1,SV.si .i64 (a.meet b).a2,SV.si .i64 (a.meet b).a3,SV.si .i64 (a.meet b).a4,SV.si .i64 (a.meet b).a5])) (by kernel_rfl) ?_
 simp only[vcs,same_agg,gL,SV.g,Bun.meet,and_self]
def r144:SCtr:=⟨144,Bun×Bun,.cons (codE .bun) (.one (codE .bun)),fun _=>True,fun a=> .sb (a.1.le a.2)⟩
theorem h144:Holds Try.prog r144:=by
 refine con (L:=[r163]) r144 F144 (fun _=>fun _=> .unroll 7) (OwnOK.none _) (by simpa using h163) (by kernel_rfl) (by kernel_rfl) (fun _=>rfl) ?_
 rintro⟨a,b⟩ _
 refine vcOf (True∧(SV.sb (decide ((a.meet b).a0=a.a0)&&(decide ((a.meet b).a1=a.a1)&&(decide ((a.meet b).a2=a.a2)&&(decide ((a.meet b).a3=a.a3)&&(decide ((a.meet b).a4=a.a4)&&(decide ((a.meet b).a5=a.a5)&&true))))))).same (SV.sb (a.le b))) (by kernel_rfl) ?_
 simp only[vcs,Bun.meet]
 rw[Bool.eq_iff_iff]
 simp only[Bool.and_eq_true,decide_eq_true_eq,Bun.le_iff,Bool.and_true,min_left]
def r145:SCtr:=⟨145,Bun×Bun,.cons (codE .bun) (.one (codE .bun)),fun a=>a.1.ok=true∧a.2.ok=true,fun a=> .agg (encS .bun (a.1.sub a.2))⟩
theorem h145:Holds Try.prog r145:=by
 refine con (L:=[]) r145 F145 (fun _=>fun _=> .unroll 7) (OwnOK.none _) (by simp) (by kernel_rfl) (by kernel_rfl) (fun _=>rfl) ?_
 rintro⟨a,b⟩ ⟨h1,h2⟩
 have h1:=Bun.ok_iff.1 h1
 have h2:=Bun.ok_iff.1 h2
 simp only at h1 h2
 refine vcOf (inR .i64 (a.a0 - b.a0)∧inR .i64 (a.a1 - b.a1)∧inR .i64 (a.a2 - b.a2)∧inR .i64 (a.a3 - b.a3)∧inR .i64 (a.a4 - b.a4)∧inR .i64 (a.a5 - b.a5)∧(SV.agg [SV.si .i64 (a.a0 - b.a0),SV.si .i64 (a.a1 - b.a1),SV.si .i64 (a.a2 - b.a2),SV.si .i64 (a.a3 - b.a3),SV.si .i64 (a.a4 - b.a4),SV.si .i64 (a.a5 - b.a5)]).same (SV.agg [SV.si .i64 (a.sub b).a0,SV.si .i64 (a.sub b).a1,SV.si .i64 (a.sub b).a2,SV.si .i64 (a.sub b).a3,SV.si .i64 (a.sub b).a4,SV.si .i64 (a.sub b).a5])) (by kernel_rfl) ?_
 simp only[vcs,same_agg,gL,SV.g,Bun.sub,and_self]
 repeat' (first|refine And.intro ?_ ?_|intro _)
 all_goals first|trivial|omega
def faultE (p:Prob) (m:Int):Int:=if checkE p≠0 then checkE p else if m<0∨2^p.classes.length≤m then 4 else 0
def r112:SCtr:=⟨112,Prob×Int,.cons codP (.one (codI .i64)),fun _=>True,fun a=> .si .i64 (faultE a.1 a.2)⟩
theorem h112:Holds Try.prog r112:=by
 refine con (L:=L7) r112 F112 (fun _=>fun _=> .unroll 7) (OwnOK.none _) hL7 (by kernel_rfl) (by kernel_rfl) (fun _=>rfl) ?_
 rintro⟨p,m⟩ _
 refine vcOf (let z0:=decide (checkE p≠(0:Int));let z1:=SV.si .i64 (faultE p m);let z2:=decide (m<(0:Int));let z3:=(↑p.classes.length:Int);let z4:=(1:Int)*(2:Int)^z3.toNat;True∧(z0=true→(SV.si .i64 (checkE p)).same z1)∧(z0=false→(z2=true→(SV.il .i64 4).same z1)∧(z2=false→(0:Int)≤z3∧z3≤(64:Int)∧inR .i64 z4∧(decide (z4≤m)=true→(SV.il .i64 4).same z1)∧(decide (z4≤m)=false→(SV.il .i64 0).same z1)))) (by kernel_rfl) ?_
 simp only[vcs]
 refine⟨fun h=>by simp[faultE,h],fun h=>⟨fun h1=>?_,fun h1=>?_⟩⟩
 ·have hz:=Classical.not_not.1 h
  simp[faultE,hz,h1]
 ·have hz:checkE p=0:=Classical.not_not.1 h
  obtain⟨f1,f2,f3,f4,f5⟩:=frame_zero (check_zero hz).1
  have hp:(1:Int)*2^((p.classes.length:Int)).toNat=2^p.classes.length:=by simp
  have hb:(2:Int)^p.classes.length≤256:=by
   have:p.classes.length=0∨p.classes.length=1∨p.classes.length=2∨p.classes.length=3∨p.classes.length=4∨p.classes.length=5∨p.classes.length=6∨p.classes.length=7∨p.classes.length=8:=by omega
   rcases this with h|h|h|h|h|h|h|h|h<;>rw[h]<;>decide
  have hb0:(0:Int)<2^p.classes.length:=Int.pow_pos (by decide)
  rw[hp]
  refine⟨by omega,by omega,⟨by omega,by omega⟩,fun h2=>?_,fun h2=>?_⟩
  ·simp only[faultE,hz,ne_eq,not_true,if_false,if_pos (show m<0∨2^p.classes.length≤m from .inr h2)]
  ·simp only[faultE,hz,ne_eq,not_true,if_false,if_neg (show ¬(m<0∨2^p.classes.length≤m) by omega)]
structure L8 where
 (l0 l1 l2 l3 l4 l5 l6 l7:List Off)
structure Sol where
 p:Prob
 ls:L8
 es:List (Sit×Int)
def byB (p:Prob) (j:Int):List Off:=p.offers.filter fun x=>decide (x.bidder=j)
def L8.of (p:Prob):L8:=⟨byB p 0,byB p 1,byB p 2,byB p 3,byB p 4,byB p 5,byB p 6,byB p 7⟩
def Sol.o (s:Sol):SStore:=
 [.cells [.si .i64 s.p.supply.a0,.si .i64 s.p.supply.a1,.si .i64 s.p.supply.a2,.si .i64 s.p.supply.a3,.si .i64 s.p.supply.a4,.si .i64 s.p.supply.a5,
  .si .i64 s.p.opn.a0,.si .i64 s.p.opn.a1,.si .i64 s.p.opn.a2,.si .i64 s.p.opn.a3,.si .i64 s.p.opn.a4,.si .i64 s.p.opn.a5,
  .si .i64 s.p.cls.a0,.si .i64 s.p.cls.a1,.si .i64 s.p.cls.a2,.si .i64 s.p.cls.a3,.si .i64 s.p.cls.a4,.si .i64 s.p.cls.a5,
  .row (.i .i64) s.p.classes,.row .off s.p.offers,.row .off s.ls.l0,.row .off s.ls.l1,.row .off s.ls.l2,.row .off s.ls.l3,.row .off s.ls.l4,.row .off s.ls.l5,.row .off s.ls.l6,.row .off s.ls.l7,.mp 1] 174 29 false,
  .map .sit (.i .i64) true s.es ([0,0,0,0,0,0,0,0,0,0,0,0,0],true) true]
def decSol:SStore→Option Sol
 |[.cells [s0,s1,s2,s3,s4,s5,o0,o1,o2,o3,o4,o5,c0,c1,c2,c3,c4,c5,k,f,l0,l1,l2,l3,l4,l5,l6,l7,.mp 1] 174 29 false,.map sk sv true es ([0,0,0,0,0,0,0,0,0,0,0,0,0],true) true]=>
  match decProb [s0,s1,s2,s3,s4,s5,o0,o1,o2,o3,o4,o5,c0,c1,c2,c3,c4,c5,k,f],castM sk sv .sit (.i .i64) es with
  |some p,some es=>match decRow .off l0,decRow .off l1,decRow .off l2,decRow .off l3,decRow .off l4,decRow .off l5,decRow .off l6,decRow .off l7 with
   |some l0,some l1,some l2,some l3,some l4,some l5,some l6,some l7=>some ⟨p,⟨l0,l1,l2,l3,l4,l5,l6,l7⟩,es⟩
   |_,_,_,_,_,_,_,_=>none
  |_,_=>none
 |_=>none
theorem castM_some {k v k' v':SId} {es:List (k.T×v.T)} {es':List (k'.T×v'.T)} (h:castM k v k' v' es=some es'):k=k'∧v=v'∧HEq es es':=by
 unfold castM at h
 split at h
 ·rename_i hh
  obtain⟨rfl,rfl⟩:=hh
  simp only[Option.some.injEq] at h
  exact⟨rfl,rfl,heq_of_eq h⟩
 ·cases h
theorem decSol_ok {o:SStore} {s:Sol} (h:decSol o=some s):gO o=gO s.o:=by
 unfold decSol at h
 split at h
 ·split at h
  ·rename_i p es' h1 h2
   split at h
   ·rename_i k0 k1 k2 k3 k4 k5 k6 k7
    simp only[Option.some.injEq] at h
    obtain⟨rfl,rfl,he⟩:=castM_some h2
    cases he
    have hp:=decProb_ok h1
    subst h
    simp only[Prob.ss,gL,List.cons.injEq,and_true] at hp
    simp only[Sol.o,gO,List.map_cons,List.map_nil,SObj.g,gL,decRow_ok k0,decRow_ok k1,decRow_ok k2,decRow_ok k3,decRow_ok k4,decRow_ok k5,decRow_ok k6,decRow_ok k7]
    simp only[hp]
   ·cases h
  ·cases h
 ·cases h
theorem sol_inj {s t:Sol} (h:gO s.o=gO t.o):s=t:=by
 obtain⟨p,⟨l0,l1,l2,l3,l4,l5,l6,l7⟩,es⟩:=s
 obtain⟨q,⟨m0,m1,m2,m3,m4,m5,m6,m7⟩,fs⟩:=t
 simp only[Sol.o,gO,List.map_cons,List.map_nil,SObj.g,gL,List.cons.injEq,AObj.cells.injEq,AObj.map.injEq,and_true,true_and] at h
 obtain⟨h,he⟩:=h
 have hp:p=q:=by
  apply codP.inj
  show(SV.agg p.ss).g=(SV.agg q.ss).g
  simp only[SV.g,Prob.ss,gL,AV.agg.injEq,List.cons.injEq,and_true] at h ⊢
  simp only[h,and_self]
 subst hp
 have hr:∀{a b:List Off},(SV.row .off a).g=(SV.row .off b).g→a=b:=fun hab=>(codR .off).inj _ _ hab
 have h0:=h.2.2.2.2.2.2.2.2.2.2.2.2.2.2.2.2.2.2.2.2
 obtain⟨h0,h1,h2,h3,h4,h5,h6,h7⟩:=h0
 have e0:=hr h0
 have e1:=hr h1
 have e2:=hr h2
 have e3:=hr h3
 have e4:=hr h4
 have e5:=hr h5
 have e6:=hr h6
 have e7:=hr h7
 subst e0 e1 e2 e3 e4 e5 e6 e7
 have hes:es=fs:=by
  revert fs
  induction es with
  |nil=>intro fs he;cases fs with
   |nil=>rfl
   |cons=>simp at he
  |cons a es ih=>
   intro fs he
   cases fs with
   |nil=>simp at he
   |cons b fs=>
    simp only[List.map_cons,List.cons.injEq,Prod.mk.injEq] at he
    obtain⟨⟨h1,h2⟩,h3⟩:=he
    have hb:=ih fs h3
    obtain⟨a1,a2⟩:=a
    obtain⟨b1,b2⟩:=b
    simp only[keyV,if_true,Value.agg.injEq,valA,encV,List.headD_cons,AV.sc.injEq,Value.int.injEq,true_and] at h1 h2
    have h1:=encV_inj .sit a1 b1 (by simpa[encV] using h1)
    rw[hb,h1,h2]
 rw[hes]
def L8l:List SCtr:=r112::r144::r145::r163::L7
theorem hL8:∀c∈L8l,Holds Try.prog c:=by
 simp only[L8l,List.forall_mem_cons]
 exact⟨h112,h144,h145,h163,hL7⟩
def solCtr (f:FuncId) (β:Type) (A:ACod β) (dom:Sol×β→Prop) (res:Sol×β→SV) (out:Sol×β→Sol):OCtr where
 f:=f
 α:=Sol×β
 put a:=.ptr 0 0 29::A.put a.2
 st a:=a.1.o
 dec v o:=match v with
  | .ptr 0 0 29::r=>match decSol o,A.dec r with
   |some s,some b=>some (s,b)
   |_,_=>none
  |_=>none
 ok v o a h:=by
  split at h
  ·split at h
   ·rename_i h1 h2
    simp only[Option.some.injEq] at h;subst h
    exact⟨by simp only[gL,A.ok _ _ h2],decSol_ok h1⟩
   ·cases h
  ·cases h
 inj a b h1 h2:=by
  simp only[gL,List.cons.injEq,true_and] at h1
  exact Prod.ext (sol_inj h2) (A.inj _ _ h1)
 dom:=dom
 res:=res
 out a:=(out a).o
def r114:OCtr:=solCtr 114 Int (.one (codI .i64)) (fun _=>True) (fun a=> .agg (encS .sit ⟨a.2,a.1.p.supply,a.1.p.opn⟩)) (fun a=>a.1)
theorem h114:HoldsO Try.prog r114:=by
 refine conO (L:=[]) (W:=[]) r114 F114 (fun _ _=> .look) (by simp) (by simp) (by kernel_rfl) (fun _=>rfl) (by kernel_rfl) ?_
 rintro⟨s,m⟩ _
 refine vcOf (let z0:=SV.si .i64 s.p.supply.a0;let z1:=SV.si .i64 s.p.supply.a1;let z2:=SV.si .i64 s.p.supply.a2;let z3:=SV.si .i64 s.p.supply.a3;let z4:=SV.si .i64 s.p.supply.a4;let z5:=SV.si .i64 s.p.supply.a5;let z6:=SV.si .i64 s.p.opn.a0;let z7:=SV.si .i64 s.p.opn.a1;let z8:=SV.si .i64 s.p.opn.a2;let z9:=SV.si .i64 s.p.opn.a3;let z10:=SV.si .i64 s.p.opn.a4;let z11:=SV.si .i64 s.p.opn.a5;let z12:=SV.agg [SV.si .i64 m,z0,z1,z2,z3,z4,z5,z6,z7,z8,z9,z10,z11];let z13:=SObj.cells [z0,z1,z2,z3,z4,z5,z6,z7,z8,z9,z10,z11,SV.si .i64 s.p.cls.a0,SV.si .i64 s.p.cls.a1,SV.si .i64 s.p.cls.a2,SV.si .i64 s.p.cls.a3,SV.si .i64 s.p.cls.a4,SV.si .i64 s.p.cls.a5,SV.row (SId.i .i64) s.p.classes,SV.row SId.off s.p.offers,SV.row SId.off s.ls.l0,SV.row SId.off s.ls.l1,SV.row SId.off s.ls.l2,SV.row SId.off s.ls.l3,SV.row SId.off s.ls.l4,SV.row SId.off s.ls.l5,SV.row SId.off s.ls.l6,SV.row SId.off s.ls.l7,SV.mp 1] 174 29 false;let z14:=SObj.map SId.sit (SId.i .i64) true s.es ([0,0,0,0,0,0,0,0,0,0,0,0,0],true) true;z12.same z12∧z13.same z13∧z14.same z14∧True) (by kernel_rfl) ?_
 simp only[vcs]
def oc (c w cl j k:Int):Int:=if j<k∧(c=0∨c=cl) then 0 else w
def clOf (p:Prob) (x:Off):Int:=nthD p.classes x.bidder.toNat 0
def outK (p:Prob) (x:Off) (k:Int):Bun:=⟨oc p.cls.a0 x.want.a0 (clOf p x) 0 k,oc p.cls.a1 x.want.a1 (clOf p x) 1 k,oc p.cls.a2 x.want.a2 (clOf p x) 2 k,oc p.cls.a3 x.want.a3 (clOf p x) 3 k,oc p.cls.a4 x.want.a4 (clOf p x) 4 k,oc p.cls.a5 x.want.a5 (clOf p x) 5 k⟩
def outS (p:Prob) (x:Off):Bun:=outK p x 6
def r143:OCtr:=solCtr 143 Off (.one (codE .off)) (fun a=>0≤a.2.bidder∧a.2.bidder<a.1.p.classes.length) (fun a=> .agg (encS .bun (outS a.1.p a.2))) (fun a=>a.1)
def Λ143 (a:Sol×Off):Nat→LoopAnn
 |3=> .inv Int (fun k=>⟨[(0,.ptr 0 0 29),(3,.ptr 2 0 8),(4,.ptr 3 0 6),(5,.ptr 4 0 6),(9,.si .i64 k)],a.1.o++[.cells (encS .off a.2) 43 8 false,.cells [.il .i64 0,.il .i64 0,.il .i64 0,.il .i64 0,.il .i64 0,.il .i64 0] 23 6 false,.cells (encS .bun (outK a.1.p a.2 k)) 23 6 false]⟩) (fun s=>iS s 9)
  (fun k=>0≤k∧k≤6) (fun k=>(6 - k).toNat) fun _ _=> .look
 |_=> .look
theorem h143:HoldsO Try.prog r143:=by
 refine conO (L:=[]) (W:=[]) r143 F143 Λ143 (by simp) (by simp) (by kernel_rfl) (fun _=>rfl) (by kernel_rfl) ?_
 rintro⟨s,x⟩ ⟨h1,h2⟩
 simp only at h1 h2
 refine vcOf (let z0:=SV.ptr 0 0 29;let z1:=SV.ptr 2 0 8;let z2:=SV.ptr 3 0 6;let z3:=SV.ptr 4 0 6;let z4:=SV.il .i64 0;let z5:=SObj.cells [SV.si .i64 s.p.supply.a0,SV.si .i64 s.p.supply.a1,SV.si .i64 s.p.supply.a2,SV.si .i64 s.p.supply.a3,SV.si .i64 s.p.supply.a4,SV.si .i64 s.p.supply.a5,SV.si .i64 s.p.opn.a0,SV.si .i64 s.p.opn.a1,SV.si .i64 s.p.opn.a2,SV.si .i64 s.p.opn.a3,SV.si .i64 s.p.opn.a4,SV.si .i64 s.p.opn.a5,SV.si .i64 s.p.cls.a0,SV.si .i64 s.p.cls.a1,SV.si .i64 s.p.cls.a2,SV.si .i64 s.p.cls.a3,SV.si .i64 s.p.cls.a4,SV.si .i64 s.p.cls.a5,SV.row (SId.i .i64) s.p.classes,SV.row SId.off s.p.offers,SV.row SId.off s.ls.l0,SV.row SId.off s.ls.l1,SV.row SId.off s.ls.l2,SV.row SId.off s.ls.l3,SV.row SId.off s.ls.l4,SV.row SId.off s.ls.l5,SV.row SId.off s.ls.l6,SV.row SId.off s.ls.l7,SV.mp 1] 174 29 false;let z6:=SObj.map SId.sit (SId.i .i64) true s.es ([0,0,0,0,0,0,0,0,0,0,0,0,0],true) true;let z7:=SV.si .i64 x.want.a0;let z8:=SV.si .i64 x.want.a1;let z9:=SV.si .i64 x.want.a2;let z10:=SV.si .i64 x.want.a3;let z11:=SV.si .i64 x.want.a4;let z12:=SV.si .i64 x.want.a5;let z13:=SObj.cells [SV.si .i64 x.bidder,z7,z8,z9,z10,z11,z12,SV.si .i64 x.value] 43 8 false;let z14:=SObj.cells [z4,z4,z4,z4,z4,z4] 23 6 false;let z15:=outK s.p x (0:Int);let z16:=[s.p.cls.a0,s.p.cls.a1,s.p.cls.a2,s.p.cls.a3,s.p.cls.a4,s.p.cls.a5];(((z0.same z0∧z1.same z1∧z2.same z2∧z3.same z3∧z4.same (SV.si .i64 0)∧True)∧z5.same z5∧z6.same z6∧z13.same z13∧z14.same z14∧(SObj.cells [z7,z8,z9,z10,z11,z12] 23 6 false).same (SObj.cells [SV.si .i64 z15.a0,SV.si .i64 z15.a1,SV.si .i64 z15.a2,SV.si .i64 z15.a3,SV.si .i64 z15.a4,SV.si .i64 z15.a5] 23 6 false)∧True)∧(0:Int)≤(0:Int)∧(0:Int)≤(6:Int))∧∀(x_1:Int),let z17:=decide (x_1<(6:Int));let z18:=nthD z16 x_1.toNat (0:Int);let z19:=decide (z18=(0:Int));let z20:=x_1+(1:Int);let z21:=SV.si .i64 z20;let z22:=outK s.p x x_1;let z23:=outK s.p x z20;let z24:=SObj.cells [SV.si .i64 z23.a0,SV.si .i64 z23.a1,SV.si .i64 z23.a2,SV.si .i64 z23.a3,SV.si .i64 z23.a4,SV.si .i64 z23.a5] 23 6 false;let z25:=decide (z18=nthD s.p.classes x.bidder.toNat (0:Int));let z26:=[SV.si .i64 z22.a0,SV.si .i64 z22.a1,SV.si .i64 z22.a2,SV.si .i64 z22.a3,SV.si .i64 z22.a4,SV.si .i64 z22.a5];let z27:=outS s.p x;(0:Int)≤x_1∧x_1≤(6:Int)→(z17=true→(0:Int)≤x_1∧x_1<(6:Int)∧x_1.toNat<6∧(z19=true→(0:Int)≤x_1∧x_1<(6:Int)∧x_1.toNat<6∧inR .i64 z20∧((z0.same z0∧z1.same z1∧z2.same z2∧z3.same z3∧z21.same z21∧True)∧z5.same z5∧z6.same z6∧z13.same z13∧z14.same z14∧(SObj.cells [SV.si .i64 (if x_1.toNat=0 then(0:Int) else z22.a0),SV.si .i64 (if x_1.toNat=1 then(0:Int) else z22.a1),SV.si .i64 (if x_1.toNat=2 then(0:Int) else z22.a2),SV.si .i64 (if x_1.toNat=3 then(0:Int) else z22.a3),SV.si .i64 (if x_1.toNat=4 then(0:Int) else z22.a4),SV.si .i64 (if x_1.toNat=5 then(0:Int) else z22.a5)] 23 6 false).same z24∧True)∧((0:Int)≤z20∧z20≤(6:Int))∧((6:Int) - z20).toNat<((6:Int) - x_1).toNat)∧(z19=false→(0:Int)≤x_1∧x_1<(6:Int)∧x_1.toNat<6∧(0:Int)≤x.bidder∧x.bidder<(↑s.p.classes.length:Int)∧x.bidder.toNat<s.p.classes.length∧(z25=true→(0:Int)≤x_1∧x_1<(6:Int)∧x_1.toNat<6∧inR .i64 z20∧((z0.same z0∧z1.same z1∧z2.same z2∧z3.same z3∧z21.same z21∧True)∧z5.same z5∧z6.same z6∧z13.same z13∧z14.same z14∧(SObj.cells [SV.si .i64 (if x_1.toNat=0 then(0:Int) else z22.a0),SV.si .i64 (if x_1.toNat=1 then(0:Int) else z22.a1),SV.si .i64 (if x_1.toNat=2 then(0:Int) else z22.a2),SV.si .i64 (if x_1.toNat=3 then(0:Int) else z22.a3),SV.si .i64 (if x_1.toNat=4 then(0:Int) else z22.a4),SV.si .i64 (if x_1.toNat=5 then(0:Int) else z22.a5)] 23 6 false).same z24∧True)∧((0:Int)≤z20∧z20≤(6:Int))∧((6:Int) - z20).toNat<((6:Int) - x_1).toNat)∧(z25=false→inR .i64 z20∧((z0.same z0∧z1.same z1∧z2.same z2∧z3.same z3∧z21.same z21∧True)∧z5.same z5∧z6.same z6∧z13.same z13∧z14.same z14∧(SObj.cells z26 23 6 false).same z24∧True)∧((0:Int)≤z20∧z20≤(6:Int))∧((6:Int) - z20).toNat<((6:Int) - x_1).toNat)))∧(z17=false→(SV.agg z26).same (SV.agg [SV.si .i64 z27.a0,SV.si .i64 z27.a1,SV.si .i64 z27.a2,SV.si .i64 z27.a3,SV.si .i64 z27.a4,SV.si .i64 z27.a5])∧z5.same z5∧z6.same z6∧True)) (by kernel_rfl) ?_
 simp only[vcs]
 have hc:∀{a0 a1 a2 a3 a4 a5 b0 b1 b2 b3 b4 b5:Int},a0=b0∧a1=b1∧a2=b2∧a3=b3∧a4=b4∧a5=b5→
   (SObj.cells [SV.si .i64 a0,SV.si .i64 a1,SV.si .i64 a2,SV.si .i64 a3,SV.si .i64 a4,SV.si .i64 a5] 23 6 false).same (SObj.cells [SV.si .i64 b0,SV.si .i64 b1,SV.si .i64 b2,SV.si .i64 b3,SV.si .i64 b4,SV.si .i64 b5] 23 6 false):=by
  rintro _ _ _ _ _ _ _ _ _ _ _ _ ⟨rfl,rfl,rfl,rfl,rfl,rfl⟩
  rfl
 have hoc0:∀c w cl j:Int,0≤j→oc c w cl j 0=w:=fun c w cl j hj=>by unfold oc;rw[if_neg (by omega)]
 have hocn:∀c w cl j k:Int,j≠k→oc c w cl j (k+1)=oc c w cl j k:=fun c w cl j k hj=>by
  unfold oc
  by_cases h:j<k∧(c=0∨c=cl)
  ·rw[if_pos h,if_pos ⟨by omega,h.2⟩]
  ·rw[if_neg h,if_neg (by omega)]
 have hoct:∀c w cl k:Int,(c=0∨c=cl)→oc c w cl k (k+1)=0:=fun c w cl k h=>by unfold oc;rw[if_pos ⟨by omega,h⟩]
 have hocf:∀c w cl k:Int,¬(c=0∨c=cl)→oc c w cl k (k+1)=oc c w cl k k:=fun c w cl k h=>by
  unfold oc
  rw[if_neg (by omega),if_neg (by omega)]
 have hset:∀k:Int,0≤k→k<6→(nthD [s.p.cls.a0,s.p.cls.a1,s.p.cls.a2,s.p.cls.a3,s.p.cls.a4,s.p.cls.a5] k.toNat 0=0∨nthD [s.p.cls.a0,s.p.cls.a1,s.p.cls.a2,s.p.cls.a3,s.p.cls.a4,s.p.cls.a5] k.toNat 0=clOf s.p x)→
   (if k.toNat=0 then 0 else(outK s.p x k).a0)=(outK s.p x (k+1)).a0∧(if k.toNat=1 then 0 else(outK s.p x k).a1)=(outK s.p x (k+1)).a1∧(if k.toNat=2 then 0 else(outK s.p x k).a2)=(outK s.p x (k+1)).a2∧
   (if k.toNat=3 then 0 else(outK s.p x k).a3)=(outK s.p x (k+1)).a3∧(if k.toNat=4 then 0 else(outK s.p x k).a4)=(outK s.p x (k+1)).a4∧(if k.toNat=5 then 0 else(outK s.p x k).a5)=(outK s.p x (k+1)).a5:=by
  intro k hk0 hk6 hcl
  have hk:k=0∨k=1∨k=2∨k=3∨k=4∨k=5:=by omega
  rcases hk with rfl|rfl|rfl|rfl|rfl|rfl<;>simp[nthD] at hcl<;>simp[outK,oc,hcl]
 have hkeep:∀k:Int,0≤k→k<6→¬(nthD [s.p.cls.a0,s.p.cls.a1,s.p.cls.a2,s.p.cls.a3,s.p.cls.a4,s.p.cls.a5] k.toNat 0=0∨nthD [s.p.cls.a0,s.p.cls.a1,s.p.cls.a2,s.p.cls.a3,s.p.cls.a4,s.p.cls.a5] k.toNat 0=clOf s.p x)→
   (outK s.p x k).a0=(outK s.p x (k+1)).a0∧(outK s.p x k).a1=(outK s.p x (k+1)).a1∧(outK s.p x k).a2=(outK s.p x (k+1)).a2∧
   (outK s.p x k).a3=(outK s.p x (k+1)).a3∧(outK s.p x k).a4=(outK s.p x (k+1)).a4∧(outK s.p x k).a5=(outK s.p x (k+1)).a5:=by
  intro k hk0 hk6 hcl
  have hk:k=0∨k=1∨k=2∨k=3∨k=4∨k=5:=by omega
  rcases hk with rfl|rfl|rfl|rfl|rfl|rfl<;>simp[nthD] at hcl<;>simp[outK,oc,hcl]
 refine⟨⟨hc ⟨by simp[outK,hoc0],by simp[outK,hoc0],by simp[outK,hoc0],by simp[outK,hoc0],by simp[outK,hoc0],by simp[outK,hoc0]⟩,by omega,by omega⟩,?_⟩
 rintro k ⟨hk0,hk6⟩
 refine⟨fun hlt=>⟨by omega,by omega,by omega,fun hA=>⟨by omega,by omega,by omega,by omega,hc (hset k hk0 hlt (.inl hA)),by omega,by omega⟩,fun hA=>⟨by omega,by omega,by omega,by omega,by omega,by omega,
  fun hB=>⟨by omega,by omega,by omega,by omega,hc (hset k hk0 hlt (.inr hB)),by omega,by omega⟩,fun hB=>⟨by omega,hc (hkeep k hk0 hlt (by rintro(h|h);exact hA h;exact hB h)),by omega,by omega⟩⟩⟩,fun hge=>?_⟩
 have:k=6:=by omega
 subst this
 rfl
def Sit.b (a:Sit):Prop:=a.left.ok=true∧a.opn.ok=true
def fitsAt (p:Prob) (a:Sit) (x:Off):Bool:=x.want.le a.left&&(outS p x).le a.opn
def nextAt (p:Prob) (a:Sit) (x:Off):Sit:=⟨binK.andNotI .i64 a.members (2^x.bidder.toNat),a.left.sub x.want,a.opn.sub (outS p x)⟩
def Sit.zero:Sit:=⟨0,Bun.zero,Bun.zero⟩
def afterS (p:Prob) (a:Sit) (x:Off):Sit:=if fitsAt p a x=true then nextAt p a x else Sit.zero
theorem oc_bd {c w cl j k:Int} (h:0≤w∧w≤4):0≤oc c w cl j k∧oc c w cl j k≤4:=by
 unfold oc
 split<;>omega
theorem out_ok {p:Prob} {x:Off} (h:x.want.ok=true):(outS p x).ok=true:=by
 have h:=Bun.ok_iff.1 h
 exact Bun.ok_iff.2 ⟨oc_bd h.1,oc_bd h.2.1,oc_bd h.2.2.1,oc_bd h.2.2.2.1,oc_bd h.2.2.2.2.1,oc_bd h.2.2.2.2.2⟩
def r116:OCtr:=solCtr 116 (Sit×Off) (.cons (codE .sit) (.one (codE .off))) (fun a=>a.1.p.classes.length≤8∧0≤a.2.2.bidder∧a.2.2.bidder<a.1.p.classes.length∧a.2.1.b∧a.2.2.want.ok=true)
 (fun a=> .tup [.agg (encS .sit (afterS a.1.p a.2.1 a.2.2)),.sb (fitsAt a.1.p a.2.1 a.2.2)]) (fun a=>a.1)
theorem h116:HoldsO Try.prog r116:=by
 refine conO (L:=L8l) (W:=[r143]) r116 F116 (fun _ _=> .look) (by simpa using h143) hL8 (by kernel_rfl) (fun _=>rfl) (by kernel_rfl) ?_
 rintro⟨s,a,x⟩ ⟨h1,h2,h3,h4,h5⟩
 simp only at h1 h2 h3 h4 h5
 refine vcOf (let z0:=SV.il .i64 0;let z1:=afterS s.p a x;let z2:=z1.left;let z3:=SV.tup [SV.agg [SV.si .i64 z1.members,SV.si .i64 z2.a0,SV.si .i64 z2.a1,SV.si .i64 z2.a2,SV.si .i64 z2.a3,SV.si .i64 z2.a4,SV.si .i64 z2.a5,SV.si .i64 z1.opn.a0,SV.si .i64 z1.opn.a1,SV.si .i64 z1.opn.a2,SV.si .i64 z1.opn.a3,SV.si .i64 z1.opn.a4,SV.si .i64 z1.opn.a5],SV.sb (fitsAt s.p a x)];let z4:=SObj.cells [SV.si .i64 s.p.supply.a0,SV.si .i64 s.p.supply.a1,SV.si .i64 s.p.supply.a2,SV.si .i64 s.p.supply.a3,SV.si .i64 s.p.supply.a4,SV.si .i64 s.p.supply.a5,SV.si .i64 s.p.opn.a0,SV.si .i64 s.p.opn.a1,SV.si .i64 s.p.opn.a2,SV.si .i64 s.p.opn.a3,SV.si .i64 s.p.opn.a4,SV.si .i64 s.p.opn.a5,SV.si .i64 s.p.cls.a0,SV.si .i64 s.p.cls.a1,SV.si .i64 s.p.cls.a2,SV.si .i64 s.p.cls.a3,SV.si .i64 s.p.cls.a4,SV.si .i64 s.p.cls.a5,SV.row (SId.i .i64) s.p.classes,SV.row SId.off s.p.offers,SV.row SId.off s.ls.l0,SV.row SId.off s.ls.l1,SV.row SId.off s.ls.l2,SV.row SId.off s.ls.l3,SV.row SId.off s.ls.l4,SV.row SId.off s.ls.l5,SV.row SId.off s.ls.l6,SV.row SId.off s.ls.l7,SV.mp 1] 174 29 false;let z5:=SObj.map SId.sit (SId.i .i64) true s.es ([0,0,0,0,0,0,0,0,0,0,0,0,0],true) true;let z6:=!(outS s.p x).le a.opn;let z7:=(1:Int)*(2:Int)^x.bidder.toNat;let z8:=a.left.sub x.want;let z9:=a.opn.sub (outS s.p x);((0:Int)≤x.bidder∧x.bidder<(↑s.p.classes.length:Int))∧True∧((!x.want.le a.left)=true→(SV.tup [SV.agg [z0,z0,z0,z0,z0,z0,z0,z0,z0,z0,z0,z0,z0],SV.bl false]).same z3∧z4.same z4∧z5.same z5∧True)∧((!x.want.le a.left)=false→True∧(z6=true→(SV.tup [SV.agg [z0,z0,z0,z0,z0,z0,z0,z0,z0,z0,z0,z0,z0],SV.bl false]).same z3∧z4.same z4∧z5.same z5∧True)∧(z6=false→(0:Int)≤x.bidder∧x.bidder≤(64:Int)∧inR .i64 z7∧(a.left.ok=true∧x.want.ok=true)∧(a.opn.ok=true∧(outS s.p x).ok=true)∧(SV.tup [SV.agg [SV.si .i64 (binK.andNotI .i64 a.members z7),SV.si .i64 z8.a0,SV.si .i64 z8.a1,SV.si .i64 z8.a2,SV.si .i64 z8.a3,SV.si .i64 z8.a4,SV.si .i64 z8.a5,SV.si .i64 z9.a0,SV.si .i64 z9.a1,SV.si .i64 z9.a2,SV.si .i64 z9.a3,SV.si .i64 z9.a4,SV.si .i64 z9.a5],SV.bl true]).same z3∧z4.same z4∧z5.same z5∧True))) (by kernel_rfl) ?_
 simp only[vcs]
 have hz:∀b:Sit,b=Sit.zero→(SV.agg [SV.il .i64 0,SV.il .i64 0,SV.il .i64 0,SV.il .i64 0,SV.il .i64 0,SV.il .i64 0,SV.il .i64 0,SV.il .i64 0,SV.il .i64 0,SV.il .i64 0,SV.il .i64 0,SV.il .i64 0,SV.il .i64 0]).same
   (SV.agg [SV.si .i64 b.members,SV.si .i64 b.left.a0,SV.si .i64 b.left.a1,SV.si .i64 b.left.a2,SV.si .i64 b.left.a3,SV.si .i64 b.left.a4,SV.si .i64 b.left.a5,SV.si .i64 b.opn.a0,SV.si .i64 b.opn.a1,SV.si .i64 b.opn.a2,SV.si .i64 b.opn.a3,SV.si .i64 b.opn.a4,SV.si .i64 b.opn.a5]):=by
  rintro b rfl;rfl
 have h2b:(1:Int)*2^x.bidder.toNat≤256∧0<(1:Int)*2^x.bidder.toNat:=by
  have:x.bidder.toNat=0∨x.bidder.toNat=1∨x.bidder.toNat=2∨x.bidder.toNat=3∨x.bidder.toNat=4∨x.bidder.toNat=5∨x.bidder.toNat=6∨x.bidder.toNat=7:=by omega
  rcases this with h|h|h|h|h|h|h|h<;>rw[h]<;>decide
 refine⟨⟨h2,h3⟩,fun hw=>?_,fun hw=>⟨fun ho=>?_,fun ho=>?_⟩⟩
 ·have hf:fitsAt s.p a x=false:=by simp[fitsAt,hw]
  exact⟨hz _ (by simp[afterS,hf]),hf.symm⟩
 ·have hf:fitsAt s.p a x=false:=by simp[fitsAt,ho]
  exact⟨hz _ (by simp[afterS,hf]),hf.symm⟩
 ·have hf:fitsAt s.p a x=true:=by simp[fitsAt,hw,ho]
  have ha:afterS s.p a x=nextAt s.p a x:=by simp[afterS,hf]
  refine⟨by omega,by omega,by omega,⟨h4.1,h5⟩,⟨h4.2,out_ok h5⟩,?_,hf.symm⟩
  rw[ha]
  simp only[nextAt,Int.one_mul]
  rfl
def bitI (m f:Int):Int:=binK.andI .i64 (m / 2^f.toNat) 1
def delI (m f:Int):Int:=binK.andNotI .i64 m (2^f.toNat)
def memL (m:Int):List Int:=[0,1,2,3,4,5,6,7].filter fun f=>decide (bitI m f≠0)
def cnt (m:Int):Nat:=(memL m).length
def bitsChk:Bool:=(List.range 256).all fun m=>decide (0≤bitI m 0)&&[0,1,2,3,4,5,6,7].all fun f=>(decide (bitI m f=0)||decide (bitI m f=1))&&(decide (bitI m f=0)||(decide (0≤delI m f)&&decide (delI m f<256)&&decide (memL (delI m f)=(memL m).filter fun g=>decide (g≠f))))
theorem bits_chk:bitsChk=true:=by kernel_rfl
theorem bit_del {m f:Int} (h0:0≤m) (h1:m<256) (g0:0≤f) (g1:f<8):(bitI m f=0∨bitI m f=1)∧(bitI m f≠0→0≤delI m f∧delI m f<256∧memL (delI m f)=(memL m).filter fun g=>decide (g≠f)):=by
 have h:=bits_chk
 simp only[bitsChk,List.all_eq_true,List.mem_range] at h
 have h2:=h m.toNat (by omega)
 simp only[Bool.and_eq_true,List.all_eq_true] at h2
 have h3:=h2.2 f (by have:f=0∨f=1∨f=2∨f=3∨f=4∨f=5∨f=6∨f=7:=by omega
                     rcases this with rfl|rfl|rfl|rfl|rfl|rfl|rfl|rfl<;>simp)
 rw[show((m.toNat:Nat):Int)=m from by omega] at h3
 simp only[Bool.and_eq_true,Bool.or_eq_true,decide_eq_true_eq] at h3
 refine⟨h3.1,fun hb=>?_⟩
 rcases h3.2 with h4|h4
 ·exact absurd h4 hb
 ·exact⟨h4.1.1,h4.1.2,h4.2⟩
def fstB (m:Int):Int:=(memL m).headD 0
def fstChk:Bool:=(List.range 256).all fun m=>decide (m=0)||(decide (0≤fstB m)&&decide (fstB m<8)&&decide (bitI m (fstB m)≠0)&&decide (memL m=fstB m::memL (delI m (fstB m)))&&
 [0,1,2,3,4,5,6,7].all fun g=>decide (fstB m≤g)||decide (bitI m g=0))
theorem fst_chk:fstChk=true:=by kernel_rfl
theorem fst_ok {m:Int} (h0:0≤m) (h1:m<256) (h:m≠0):0≤fstB m∧fstB m<8∧bitI m (fstB m)≠0∧memL m=fstB m::memL (delI m (fstB m))∧∀g,0≤g→g<fstB m→bitI m g=0:=by
 have hh:=fst_chk
 simp only[fstChk,List.all_eq_true,List.mem_range] at hh
 have h2:=hh m.toNat (by omega)
 rw[show((m.toNat:Nat):Int)=m from by omega] at h2
 simp only[Bool.or_eq_true,Bool.and_eq_true,decide_eq_true_eq,List.all_eq_true] at h2
 rcases h2 with h2|h2
 ·omega
 ·obtain⟨⟨⟨⟨a1,a2⟩,a3⟩,a4⟩,a5⟩:=h2
  refine⟨a1,a2,a3,a4,fun g g0 g1=>?_⟩
  have:=a5 g (by have:g=0∨g=1∨g=2∨g=3∨g=4∨g=5∨g=6∨g=7:=by omega
                 rcases this with rfl|rfl|rfl|rfl|rfl|rfl|rfl|rfl<;>simp)
  rcases this with h|h
  ·omega
  ·exact h
abbrev Memo:=List (Sit×Int)
def lstOf (s:L8) (f:Int):List Off:=nthD [s.l0,s.l1,s.l2,s.l3,s.l4,s.l5,s.l6,s.l7] f.toNat []
def skipAt (a:Sit):Sit:=⟨delI a.members (fstB a.members),a.left,a.opn⟩
def bestM (p:Prob):Nat→Memo→Sit→Int×Memo
 |0,es,_=>(0,es)
 |n+1,es,a=>
  if a.members=0 then(0,es) else
  match findT .sit (.i .i64) a es with
  |some v=>(v,es)
  |none=>
   let r:=(lstOf (L8.of p) (fstB a.members)).foldl (fun r x=>if fitsAt p a x=true then(max r.1 (x.value+(bestM p n r.2 (nextAt p a x)).1),(bestM p n r.2 (nextAt p a x)).2) else r) (bestM p n es (skipAt a))
   (r.1,setT .sit (.i .i64) a r.1 r.2)
def stepM (p:Prob) (n:Nat) (a:Sit) (r:Int×Memo) (x:Off):Int×Memo:=
 if fitsAt p a x=true then(max r.1 (x.value+(bestM p n r.2 (nextAt p a x)).1),(bestM p n r.2 (nextAt p a x)).2) else r
def Good (p:Prob):Prop:=p.classes.length≤8∧p.offers.length≤160∧p.supply.ok=true∧p.opn.ok=true∧∀x∈p.offers,0≤x.bidder∧x.bidder<p.classes.length∧x.want.ok=true∧1≤x.value∧x.value≤1000000
def SitOk (a:Sit):Prop:=0≤a.members∧a.members<256∧a.b
def valL (p:Prob):List Int→Bun→Bun→Int
 |[],_,_=>0
 |f::fs,l,o=>(byB p f).foldl (fun v x=>if x.want.le l&&(outS p x).le o then max v (x.value+valL p fs (l.sub x.want) (o.sub (outS p x))) else v) (valL p fs l o)
def stepV (p:Prob) (fs:List Int) (l o:Bun) (v:Int) (x:Off):Int:=if x.want.le l&&(outS p x).le o then max v (x.value+valL p fs (l.sub x.want) (o.sub (outS p x))) else v
def bestS (p:Prob) (a:Sit):Int:=valL p (memL a.members) a.left a.opn
def MemoOk (p:Prob) (es:Memo):Prop:=∀e∈es,e.2=bestS p e.1
theorem stepV_bd {p:Prob} {fs:List Int} {l o:Bun} (hg:Good p) (B:Int) (hB:∀l o,0≤valL p fs l o∧valL p fs l o≤B):∀{xs:List Off} {v:Int},(∀x∈xs,x∈p.offers)→0≤v∧v≤B+1000000→0≤xs.foldl (stepV p fs l o) v∧xs.foldl (stepV p fs l o) v≤B+1000000
 |[],v,_,hv=>hv
 |x::xs,v,hx,hv=>by
  simp only[List.foldl_cons]
  refine stepV_bd hg B hB (fun y hy=>hx y (by simp[hy])) ?_
  unfold stepV
  have h1:=hB (l.sub x.want) (o.sub (outS p x))
  have h2:=hg.2.2.2.2 x (hx x (by simp))
  split<;>omega
theorem valL_bd {p:Prob} (hg:Good p):∀(fs:List Int) (l o:Bun),0≤valL p fs l o∧valL p fs l o≤1000000*fs.length
 |[],_,_=>by simp[valL]
 |f::fs,l,o=>by
  have ih:=valL_bd hg fs
  have h:=stepV_bd (l:=l) (o:=o) hg (1000000*fs.length) ih (xs:=byB p f) (v:=valL p fs l o) (fun x hx=>(List.mem_filter.1 hx).1) (by have:=ih l o;omega)
  have e:valL p (f::fs) l o=(byB p f).foldl (stepV p fs l o) (valL p fs l o):=rfl
  rw[e]
  simp only[List.length_cons]
  omega
theorem mem_len {m:Int}:(memL m).length≤8:=List.length_filter_le _ _
theorem bestS_bd {p:Prob} (hg:Good p) (a:Sit):0≤bestS p a∧bestS p a≤8000000:=by
 have h:=valL_bd hg (memL a.members) a.left a.opn
 have:=@mem_len a.members
 unfold bestS
 omega
theorem find_mem {a:Sit} {es:Memo} {v:Int} (h:findT .sit (.i .i64) a es=some v):∃e∈es,e.1=a∧e.2=v:=by
 unfold findT at h
 obtain⟨e,h1,rfl⟩:=Option.map_eq_some_iff.1 h
 have h2:=List.find?_some h1
 exact⟨e,List.mem_of_find?_eq_some h1,by simpa using h2,rfl⟩
theorem memo_set {p:Prob} {a:Sit} {v:Int} (hv:v=bestS p a):∀{es:Memo},MemoOk p es→MemoOk p (setT .sit (.i .i64) a v es)
 |[],_=>by intro e he;simp[setT] at he;subst he;exact hv
 |q::es,h=>by
  unfold setT
  split
  ·intro e he
   rcases List.mem_cons.1 he with rfl|he
   ·exact hv
   ·exact h e (by simp[he])
  ·intro e he
   rcases List.mem_cons.1 he with rfl|he
   ·exact h e (by simp)
   ·exact memo_set hv (fun e he=>h e (by simp[he])) e he
theorem sub_ok {a b:Bun} (ha:a.ok=true) (hb:b.ok=true) (h:b.le a=true):(a.sub b).ok=true:=by
 have ha:=Bun.ok_iff.1 ha
 have hb:=Bun.ok_iff.1 hb
 have h:=Bun.le_iff.1 h
 refine Bun.ok_iff.2 ?_
 simp only[Bun.sub]
 omega
theorem lst_eq {p:Prob} {f:Int} (h0:0≤f) (h1:f<8):lstOf (L8.of p) f=byB p f:=by
 have:f=0∨f=1∨f=2∨f=3∨f=4∨f=5∨f=6∨f=7:=by omega
 rcases this with rfl|rfl|rfl|rfl|rfl|rfl|rfl|rfl<;>rfl
theorem next_ok {p:Prob} (hg:Good p) {a:Sit} (ha:SitOk a) (h0:a.members≠0) {x:Off} (hx:x∈byB p (fstB a.members)) (hf:fitsAt p a x=true):
  SitOk (nextAt p a x)∧memL a.members=fstB a.members::memL (nextAt p a x).members∧(nextAt p a x).members=delI a.members (fstB a.members):=by
 obtain⟨hxo,hxb⟩:=List.mem_filter.1 hx
 have hxb:x.bidder=fstB a.members:=by simpa using hxb
 have hv:=hg.2.2.2.2 x hxo
 obtain⟨f0,f1,f2,f3,f4⟩:=fst_ok ha.1 ha.2.1 h0
 have hd:=(bit_del ha.1 ha.2.1 f0 f1).2 f2
 have hm:(nextAt p a x).members=delI a.members (fstB a.members):=by simp only[nextAt,hxb,delI]
 simp only[fitsAt,Bool.and_eq_true] at hf
 refine⟨⟨by rw[hm];exact hd.1,by rw[hm];exact hd.2.1,sub_ok ha.2.2.1 hv.2.2.1 hf.1,sub_ok ha.2.2.2 (out_ok hv.2.2.1) hf.2⟩,by rw[hm];exact f3,hm⟩
theorem skip_ok {a:Sit} (ha:SitOk a) (h0:a.members≠0):SitOk (skipAt a)∧memL a.members=fstB a.members::memL (skipAt a).members:=by
 obtain⟨f0,f1,f2,f3,f4⟩:=fst_ok ha.1 ha.2.1 h0
 have hd:=(bit_del ha.1 ha.2.1 f0 f1).2 f2
 exact⟨⟨hd.1,hd.2.1,ha.2.2⟩,f3⟩
theorem steps_ok {p:Prob} (hg:Good p) {n:Nat} {a:Sit} (ha:SitOk a) (h0:a.members≠0)
  (ih:∀(es:Memo) (b:Sit),SitOk b→MemoOk p es→cnt b.members<n→(bestM p n es b).1=bestS p b∧MemoOk p (bestM p n es b).2) (hn:cnt a.members<n+1):
  ∀{xs:List Off} {r:Int×Memo},(∀x∈xs,x∈byB p (fstB a.members))→MemoOk p r.2→
   (xs.foldl (stepM p n a) r).1=xs.foldl (stepV p (memL (skipAt a).members) a.left a.opn) r.1∧MemoOk p (xs.foldl (stepM p n a) r).2
 |[],r,_,hr=>⟨rfl,hr⟩
 |x::xs,r,hx,hr=>by
  simp only[List.foldl_cons]
  have hxm:=hx x (by simp)
  have h1:(stepM p n a r x).1=stepV p (memL (skipAt a).members) a.left a.opn r.1 x∧MemoOk p (stepM p n a r x).2:=by
   unfold stepM stepV
   by_cases hf:fitsAt p a x=true
   ·have hf2:(x.want.le a.left&&(outS p x).le a.opn)=true:=hf
    rw[if_pos hf,if_pos hf2]
    obtain⟨k1,k2,k3⟩:=next_ok hg ha h0 hxm hf
    have hc:cnt (nextAt p a x).members<n:=by
     unfold cnt at hn ⊢
     rw[k2] at hn
     simpa using hn
    obtain⟨e1,e2⟩:=ih r.2 _ k1 hr hc
    refine⟨?_,e2⟩
    simp only[e1,bestS,k3]
    rfl
   ·have hf2:¬(x.want.le a.left&&(outS p x).le a.opn)=true:=hf
    rw[if_neg hf,if_neg hf2]
    exact⟨rfl,hr⟩
  obtain⟨h2,h3⟩:=steps_ok hg ha h0 ih hn (xs:=xs) (fun y hy=>hx y (by simp[hy])) h1.2
  exact⟨by rw[h2,h1.1],h3⟩
theorem best_ok {p:Prob} (hg:Good p):∀(n:Nat) (es:Memo) (a:Sit),SitOk a→MemoOk p es→cnt a.members<n→(bestM p n es a).1=bestS p a∧MemoOk p (bestM p n es a).2
 |0,_,_,_,_,h=>absurd h (by omega)
 |n+1,es,a,ha,he,hn=>by
  unfold bestM
  by_cases h0:a.members=0
  ·rw[if_pos h0]
   refine⟨?_,he⟩
   unfold bestS
   rw[h0]
   rfl
  ·rw[if_neg h0]
   split
   ·rename_i v hv
    obtain⟨e,h1,h2,h3⟩:=find_mem hv
    refine⟨?_,he⟩
    rw[←h3,he e h1,h2]
   ·rename_i hv
    obtain⟨s1,s2⟩:=skip_ok ha h0
    obtain⟨f0,f1,_⟩:=fst_ok ha.1 ha.2.1 h0
    have hc:cnt (skipAt a).members<n:=by
     unfold cnt at hn ⊢
     rw[s2] at hn
     simpa using hn
    obtain⟨e1,e2⟩:=best_ok hg n es _ s1 he hc
    rw[lst_eq f0 f1]
    obtain⟨k1,k2⟩:=steps_ok hg ha h0 (fun es b hb h1 h2=>best_ok hg n es b hb h1 h2) hn (xs:=byB p (fstB a.members)) (r:=bestM p n es (skipAt a)) (fun _ h=>h) e2
    have hval:((byB p (fstB a.members)).foldl (stepM p n a) (bestM p n es (skipAt a))).1=bestS p a:=by
     rw[k1,e1]
     unfold bestS
     rw[s2]
     rfl
    exact⟨hval,memo_set hval k2⟩
def bestC (n:Nat):OCtr:=solCtr 115 Sit (.one (codE .sit)) (fun a=>(Good a.1.p∧a.1.ls=L8.of a.1.p∧SitOk a.2∧MemoOk a.1.p a.1.es)∧cnt a.2.members<n)
 (fun a=> .si .i64 (bestM a.1.p (cnt a.2.members+1) a.1.es a.2).1) (fun a=>⟨a.1.p,a.1.ls,(bestM a.1.p (cnt a.2.members+1) a.1.es a.2).2⟩)
def W9 (n:Nat):List OCtr:=[bestC n,r116]
def runJ (s:Sol) (a:Sit) (j:Int):Int×Memo:=((lstOf s.ls (fstB a.members)).take j.toNat).foldl (stepM s.p (cnt a.members) a) (bestM s.p (cnt a.members) s.es (skipAt a))
def Λ115 (s:Sol) (a:Sit):Nat→LoopAnn
 |7=> .inv Int (fun f=>⟨[(0,.ptr 0 0 29),(3,.ptr 2 0 13),(7,.si .i64 f)],s.o++[.cells (encS .sit a) 141 13 false]⟩) (fun t=>iS t 7) (fun f=>0≤f∧f≤fstB a.members) (fun f=>(fstB a.members - f).toNat) fun _ _=> .look
 |13=> .inv Int (fun j=>⟨[(0,.ptr 0 0 29),(3,.ptr 2 0 13),(9,.si .i64 (runJ s a j).1),(51,.row .off (lstOf s.ls (fstB a.members))),(52,.si .i64 (lstOf s.ls (fstB a.members)).length),(53,.si .i64 j)],
   (Sol.o ⟨s.p,s.ls,(runJ s a j).2⟩)++[.cells (encS .sit a) 141 13 false,.cells (encS .sit (skipAt a)) 141 13 false]⟩) (fun t=>iS t 53)
  (fun j=>0≤j∧j≤(lstOf s.ls (fstB a.members)).length) (fun j=>((lstOf s.ls (fstB a.members)).length - j).toNat) fun _ _=> .look
 |_=> .look
theorem bestM_zero {p:Prob} {n:Nat} {es:Memo} {a:Sit} (h:a.members=0):bestM p (n+1) es a=(0,es):=by
 unfold bestM
 rw[if_pos h]
theorem bestM_hit {p:Prob} {n:Nat} {es:Memo} {a:Sit} {v:Int} (h:a.members≠0) (hv:findT .sit (.i .i64) a es=some v):bestM p (n+1) es a=(v,es):=by
 unfold bestM
 rw[if_neg h,hv]
theorem bestM_run {s:Sol} {a:Sit} (hl:s.ls=L8.of s.p) (h:a.members≠0) (hv:findT .sit (.i .i64) a s.es=none) {j:Int} (hj:j=(lstOf s.ls (fstB a.members)).length):
  bestM s.p (cnt a.members+1) s.es a=((runJ s a j).1,setT .sit (.i .i64) a (runJ s a j).1 (runJ s a j).2):=by
 unfold bestM runJ
 rw[if_neg h,hv,show j.toNat=(lstOf s.ls (fstB a.members)).length from by omega,List.take_length,hl]
 rfl
theorem runJ_succ {s:Sol} {a:Sit} {j:Int} (h0:0≤j) (h1:j<(lstOf s.ls (fstB a.members)).length):runJ s a (j+1)=stepM s.p (cnt a.members) a (runJ s a j) (nthD (lstOf s.ls (fstB a.members)) j.toNat SId.off.dflt):=by
 unfold runJ
 rw[take_nth (d:=SId.off.dflt) h0 h1,List.foldl_append]
 rfl
theorem map_same_eq {es es':Memo} {kt:List Nat×Bool} (h:es=es'):(SObj.map SId.sit (SId.i IntKind.i64) true es kt true).same (SObj.map SId.sit (SId.i IntKind.i64) true es' kt true):=by rw[h];rfl
theorem bestX (n:Nat) (s:Sol) (a:Sit) (hg:Good s.p) (hl:s.ls=L8.of s.p) (ha:SitOk a) (hm:MemoOk s.p s.es) (hn:cnt a.members<n+1):
  Vc (fnOwnK (parL L8l (ownT (W9 n)) tyN mtN fnN) (Λ115 s a) F115 ((bestC (n+1)).put (s,a)) ((bestC (n+1)).st (s,a)) fun v t=>v.same ((bestC (n+1)).res (s,a))∧sameO t ((bestC (n+1)).out (s,a))):=by
 refine vcOf (let z0:=decide (a.members=(0:Int));let z1:=SV.il .i64 0;let z2:=bestM s.p (cnt a.members+1) s.es a;let z3:=SV.si .i64 z2.fst;let z4:=SId.i .i64;let z5:=SObj.cells [SV.si .i64 s.p.supply.a0,SV.si .i64 s.p.supply.a1,SV.si .i64 s.p.supply.a2,SV.si .i64 s.p.supply.a3,SV.si .i64 s.p.supply.a4,SV.si .i64 s.p.supply.a5,SV.si .i64 s.p.opn.a0,SV.si .i64 s.p.opn.a1,SV.si .i64 s.p.opn.a2,SV.si .i64 s.p.opn.a3,SV.si .i64 s.p.opn.a4,SV.si .i64 s.p.opn.a5,SV.si .i64 s.p.cls.a0,SV.si .i64 s.p.cls.a1,SV.si .i64 s.p.cls.a2,SV.si .i64 s.p.cls.a3,SV.si .i64 s.p.cls.a4,SV.si .i64 s.p.cls.a5,SV.row z4 s.p.classes,SV.row SId.off s.p.offers,SV.row SId.off s.ls.l0,SV.row SId.off s.ls.l1,SV.row SId.off s.ls.l2,SV.row SId.off s.ls.l3,SV.row SId.off s.ls.l4,SV.row SId.off s.ls.l5,SV.row SId.off s.ls.l6,SV.row SId.off s.ls.l7,SV.mp 1] 174 29 false;let z6:=([0,0,0,0,0,0,0,0,0,0,0,0,0],true);let z7:=SObj.map SId.sit z4 true s.es z6 true;let z8:=SObj.map SId.sit z4 true z2.snd z6 true;let z9:=findT SId.sit z4 a s.es;let z10:=SV.ptr 0 0 29;let z11:=SV.ptr 2 0 13;let z12:=[SV.si .i64 a.left.a0,SV.si .i64 a.left.a1,SV.si .i64 a.left.a2,SV.si .i64 a.left.a3,SV.si .i64 a.left.a4,SV.si .i64 a.left.a5,SV.si .i64 a.opn.a0,SV.si .i64 a.opn.a1,SV.si .i64 a.opn.a2,SV.si .i64 a.opn.a3,SV.si .i64 a.opn.a4,SV.si .i64 a.opn.a5];let z13:=SObj.cells (SV.si .i64 a.members::z12) 141 13 false;let z14:=fstB a.members;let z15:=lstOf s.ls z14;let z16:=SV.row SId.off z15;let z17:=(↑z15.length:Int);let z18:=SV.si .i64 z17;let z19:=(skipAt a).left;let z20:=(skipAt a).opn;let z21:=SObj.cells [SV.si .i64 (skipAt a).members,SV.si .i64 z19.a0,SV.si .i64 z19.a1,SV.si .i64 z19.a2,SV.si .i64 z19.a3,SV.si .i64 z19.a4,SV.si .i64 z19.a5,SV.si .i64 z20.a0,SV.si .i64 z20.a1,SV.si .i64 z20.a2,SV.si .i64 z20.a3,SV.si .i64 z20.a4,SV.si .i64 z20.a5] 141 13 false;(z0=true→z1.same z3∧z5.same z5∧z7.same z8∧True)∧(z0=false→(z9.isSome=true→(SV.si .i64 (z9.getD (0:Int))).same z3∧z5.same z5∧z7.same z8∧True)∧(z9.isSome=false→(((z10.same z10∧z11.same z11∧z1.same (SV.si .i64 0)∧True)∧z5.same z5∧z7.same z7∧z13.same z13∧True)∧(0:Int)≤(0:Int)∧(0:Int)≤z14)∧∀(x:Int),let z22:=decide (binK.andI .i64 (a.members / (2:Int)^x.toNat) (1:Int)=(0:Int));let z23:=x+(1:Int);let z24:=SV.si .i64 z23;let z25:=(1:Int)*(2:Int)^x.toNat;let z26:=binK.andNotI .i64 a.members z25;let z27:=Sit.mk z26 a.left a.opn;let z28:=bestM s.p (cnt z26+1) s.es z27;let z29:=nthD [s.ls.l0,s.ls.l1,s.ls.l2,s.ls.l3,s.ls.l4,s.ls.l5,s.ls.l6,s.ls.l7] x.toNat [];(0:Int)≤x∧x≤z14→(0:Int)≤x∧x≤(64:Int)∧(z22=true→inR .i64 z23∧((z10.same z10∧z11.same z11∧z24.same z24∧True)∧z5.same z5∧z7.same z7∧z13.same z13∧True)∧((0:Int)≤z23∧z23≤z14)∧(z14 - z23).toNat<(z14 - x).toNat)∧(z22=false→(0:Int)≤x∧x≤(64:Int)∧inR .i64 z25∧((Good s.p∧s.ls=L8.of s.p∧SitOk z27∧MemoOk s.p s.es)∧cnt z26<n)∧(0:Int)≤x∧x<(8:Int)∧x.toNat<8∧(((z10.same z10∧z11.same z11∧(SV.si .i64 z28.fst).same (SV.si .i64 (runJ s a (0:Int)).fst)∧(SV.row SId.off z29).same z16∧(SV.si .i64 (↑z29.length:Int)).same z18∧z1.same (SV.si .i64 0)∧True)∧z5.same z5∧(SObj.map SId.sit z4 true z28.snd z6 true).same (SObj.map SId.sit z4 true (runJ s a (0:Int)).snd z6 true)∧z13.same z13∧(SObj.cells (SV.si .i64 z26::z12) 141 13 false).same z21∧True)∧(0:Int)≤(0:Int)∧(0:Int)≤z17)∧∀(x:Int),let z30:=nthD z15 x.toNat SId.off.dflt;let z31:=afterS s.p a z30;let z32:=(runJ s a x).snd;let z33:=bestM s.p (cnt z31.members+1) z32 z31;let z34:=x+(1:Int);let z35:=(runJ s a x).fst;let z36:=SV.si .i64 (runJ s a z34).fst;let z37:=SV.si .i64 z34;let z38:=SObj.map SId.sit z4 true (runJ s a z34).snd z6 true;let z39:=SV.si .i64 z35;(0:Int)≤x∧x≤z17→(decide (x<z17)=true→(0:Int)≤x∧x<(↑z15.length:Int)∧x.toNat<z15.length∧(s.p.classes.length≤8∧(0:Int)≤z30.bidder∧z30.bidder<(↑s.p.classes.length:Int)∧a.b∧z30.want.ok=true)∧(fitsAt s.p a z30=true→((Good s.p∧s.ls=L8.of s.p∧SitOk z31∧MemoOk s.p z32)∧cnt z31.members<n)∧inR .i64 (z30.value+z33.fst)∧inR .i64 z34∧((z10.same z10∧z11.same z11∧(SV.si .i64 (max z35 (z30.value+z33.fst))).same z36∧z16.same z16∧z18.same z18∧z37.same z37∧True)∧z5.same z5∧(SObj.map SId.sit z4 true z33.snd z6 true).same z38∧z13.same z13∧z21.same z21∧True)∧((0:Int)≤z34∧z34≤z17)∧(z17 - z34).toNat<(z17 - x).toNat)∧(fitsAt s.p a z30=false→inR .i64 z34∧((z10.same z10∧z11.same z11∧z39.same z36∧z16.same z16∧z18.same z18∧z37.same z37∧True)∧z5.same z5∧(SObj.map SId.sit z4 true z32 z6 true).same z38∧z13.same z13∧z21.same z21∧True)∧((0:Int)≤z34∧z34≤z17)∧(z17 - z34).toNat<(z17 - x).toNat))∧(decide (x<z17)=false→z39.same z3∧z5.same z5∧(SObj.map SId.sit z4 true (setT SId.sit z4 a z35 z32) z6 true).same z8∧True))))) (by kernel_rfl) ?_
 simp only[vcs]
 refine⟨fun h0=>?_,fun h0=>⟨fun hf=>?_,fun hf=>?_⟩⟩
 ·rw[bestM_zero h0]
  exact⟨rfl,rfl⟩
 ·obtain⟨v,hv⟩:=Option.isSome_iff_exists.1 hf
  rw[bestM_hit h0 hv,hv]
  exact⟨rfl,rfl⟩
 ·have hnone:findT .sit (.i .i64) a s.es=none:=by simpa using hf
  obtain⟨f0,f1,f2,f3,f4⟩:=fst_ok ha.1 ha.2.1 h0
  obtain⟨s1,s2⟩:=skip_ok ha h0
  have hcs:cnt (skipAt a).members+1=cnt a.members:=by unfold cnt;rw[s2];simp
  have hle:lstOf s.ls (fstB a.members)=byB s.p (fstB a.members):=by rw[hl];exact lst_eq f0 f1
  have hll:(lstOf s.ls (fstB a.members)).length≤160:=by rw[hle];exact Nat.le_trans (List.length_filter_le _ _) hg.2.1
  have hb8:=best_ok hg (cnt a.members)
  obtain⟨q1,q2⟩:=hb8 s.es _ s1 hm (by omega)
  have hrun:∀j:Int,0≤(runJ s a j).1∧(runJ s a j).1≤9000000∧MemoOk s.p (runJ s a j).2:=by
   intro j
   have hmem:∀x∈(lstOf s.ls (fstB a.members)).take j.toNat,x∈byB s.p (fstB a.members):=fun x hx=>by rw[hle] at hx;exact List.mem_of_mem_take hx
   obtain⟨k1,k2⟩:=steps_ok hg ha h0 (n:=cnt a.members) (fun es b hb h1 h2=>hb8 es b hb h1 h2) (by omega) (xs:=(lstOf s.ls (fstB a.members)).take j.toNat) (r:=bestM s.p (cnt a.members) s.es (skipAt a)) hmem q2
   have hB:=stepV_bd (l:=a.left) (o:=a.opn) (fs:=memL (skipAt a).members) hg 8000000 (fun l o=>by
    have:=valL_bd hg (memL (skipAt a).members) l o
    have:=@mem_len (skipAt a).members
    omega) (xs:=(lstOf s.ls (fstB a.members)).take j.toNat) (v:=(bestM s.p (cnt a.members) s.es (skipAt a)).1) (fun x hx=>(List.mem_filter.1 (hmem x hx)).1) (by
     rw[q1]
     have:=bestS_bd hg (skipAt a)
     omega)
   unfold runJ
   rw[k1]
   exact⟨hB.1,hB.2,k2⟩
  refine⟨⟨by omega,f0⟩,?_⟩
  rintro f ⟨g0,g1⟩
  refine⟨g0,by omega,fun hb=>⟨by omega,⟨by omega,?_⟩,?_⟩,fun hb=>?_⟩
  ·have:f≠fstB a.members:=fun e=>f2 (by rw[←e];exact hb)
   omega
  ·have:f≠fstB a.members:=fun e=>f2 (by rw[←e];exact hb)
   omega
  ·have hfe:f=fstB a.members:=by
    by_cases hlt:f<fstB a.members
    ·exact absurd (f4 f g0 hlt) hb
    ·omega
   subst hfe
   simp only[Int.one_mul]
   have hp:(2:Int)^(fstB a.members).toNat≤256∧0<(2:Int)^(fstB a.members).toNat:=by
    have:(fstB a.members).toNat=0∨(fstB a.members).toNat=1∨(fstB a.members).toNat=2∨(fstB a.members).toNat=3∨(fstB a.members).toNat=4∨(fstB a.members).toNat=5∨(fstB a.members).toNat=6∨(fstB a.members).toNat=7:=by omega
    rcases this with h|h|h|h|h|h|h|h<;>rw[h]<;>decide
   have hsk:binK.andNotI .i64 a.members (2^(fstB a.members).toNat)=(skipAt a).members:=rfl
   simp only[hsk]
   have hse:(⟨(skipAt a).members,a.left,a.opn⟩:Sit)=skipAt a:=rfl
   simp only[hse,hcs]
   have hr0:runJ s a 0=bestM s.p (cnt a.members) s.es (skipAt a):=rfl
   refine⟨g0,by omega,⟨by omega,by omega⟩,⟨⟨hg,hl,s1,hm⟩,by omega⟩,g0,f1,by omega,⟨⟨⟨?_,rfl,rfl⟩,map_same_eq (by rw[hr0]),rfl⟩,by omega,by omega⟩,?_⟩
   ·rw[hr0]
   rintro j ⟨j0,j1⟩
   obtain⟨b1,b2,b3⟩:=hrun j
   refine⟨fun jlt=>?_,fun jge=>?_⟩
   ·have hsucc:=runJ_succ (s:=s) (a:=a) j0 jlt
    have hxm:=nthD_mem (d:=SId.off.dflt) (show j.toNat<(lstOf s.ls (fstB a.members)).length by omega)
    generalize nthD (lstOf s.ls (fstB a.members)) j.toNat SId.off.dflt=x at hsucc hxm ⊢
    rw[hle] at hxm
    have hxo:=(List.mem_filter.1 hxm).1
    have hxv:=hg.2.2.2.2 x hxo
    refine⟨j0,jlt,by omega,⟨hg.1,hxv.1,hxv.2.1,ha.2.2,hxv.2.2.1⟩,fun hfit=>?_,fun hfit=>?_⟩
    ·obtain⟨k1,k2,k3⟩:=next_ok hg ha h0 hxm hfit
     have hcn:cnt (nextAt s.p a x).members+1=cnt a.members:=by unfold cnt;rw[k2];simp
     have haf:afterS s.p a x=nextAt s.p a x:=by unfold afterS;rw[if_pos hfit]
     simp only[haf,hcn]
     obtain⟨e1,e2⟩:=hb8 (runJ s a j).2 _ k1 b3 (by omega)
     have hbd:=bestS_bd hg (nextAt s.p a x)
     have hst:runJ s a (j+1)=(max (runJ s a j).1 (x.value+(bestM s.p (cnt a.members) (runJ s a j).2 (nextAt s.p a x)).1),(bestM s.p (cnt a.members) (runJ s a j).2 (nextAt s.p a x)).2):=by
      rw[hsucc];unfold stepM;rw[if_pos hfit]
     rw[hst]
     refine⟨⟨⟨hg,hl,k1,b3⟩,by omega⟩,by rw[e1];omega,by omega,⟨rfl,rfl⟩,by omega,by omega⟩
    ·have hst:runJ s a (j+1)=runJ s a j:=by
      rw[hsucc];unfold stepM;rw[if_neg (by simp[hfit])]
     rw[hst]
     exact⟨by omega,⟨rfl,rfl⟩,by omega,by omega⟩
   ·have hj:j=(lstOf s.ls (fstB a.members)).length:=by omega
    rw[bestM_run hl h0 hnone hj]
    exact⟨rfl,rfl⟩
theorem hBest:∀n,HoldsO Try.prog (bestC n)
 |0=>by
  rintro⟨s,a⟩ ⟨_,h⟩
  exact absurd h (Nat.not_lt_zero _)
 |n+1=>by
  rintro⟨s,a⟩ ⟨h1,h2⟩
  by_cases hc:cnt a.members<n
  ·exact hBest n (s,a) ⟨h1,hc⟩
  ·refine holdsO_of (bestC (n+1)) (W:=W9 n) (Λ:=fun x=>Λ115 x.1 x.2) base_ok (by simp only[W9,List.forall_mem_cons,List.not_mem_nil,false_implies,implies_true,and_true];exact⟨hBest n,h116⟩) hL8
    (show fnN 115=some F115 by kernel_rfl) (fun _=>rfl) (s,a) ?_ (bestX n s a h1.1 h1.2.1 h1.2.2.1 h1.2.2.2 h2).out
   intro d hd b hb1 hb2 hb3
   have hd2:d=bestC n:=by
    have:findO 115 (W9 n)=some (bestC n):=rfl
    have hd3:findO 115 (W9 n)=some d:=hd
    rw[this] at hd3
    injection hd3 with hd3
    exact hd3.symm
   subst hd2
   have hb:(s,a)=b:=(bestC n).inj (s,a) b hb1 hb2
   subst hb
   exact hc hb3.2
end Go.Vi
