/- Formulas of the program's functions, printed by a program of the prover's own (dec.py); each is tied to its code by the kernel. -/
import Derived.Test.YtgaiocpkjaaphaaGreatDoorVc
import Derived.Test.YtgaiocpkjaaphaaGreatDoorChecked
set_option linter.unusedVariables false
set_option maxRecDepth 1000000
namespace Go.Proofs.YtgaiocpkjaaphaaGreatDoor
open Go Go.Vc Tryz Vc.H
abbrev I (n:Int):Value:=.int .i64 n
abbrev Bv (o:BinOp) (a b:Value) (A B:Prop):Prop:=Bp o a b λx=>Vif x A B
abbrev KS (a:List Value) (X:Prop):Prop:=KE a a X
abbrev VT0:=Program->World->KT->Prop
abbrev VT1:=Program->Value->World->KT->Prop
abbrev VT2:=Program->Value->Value->World->KT->Prop
abbrev VT3:=Program->Value->Value->Value->World->KT->Prop
abbrev VT4:=Program->Value->Value->Value->Value->World->KT->Prop
abbrev VT5:=Program->Value->Value->Value->Value->Value->World->KT->Prop
variable {a0 a1 a2 a3 a4 a5 a6 a7 a8 a9:Value}
variable {w:World}{R:Value->World->Prop}

def Vz7:VT3:=λP N f g w R=>
 New N 51 w λc m=>VJoin 1 (λ_ O p=>Vif O (Cl P 28 #[] p λQ S=>R Q S) (Iaa 2 1 c (I 0) λU=>Ld U p λW=>Iaa 2 1 c (I 1) λY=>Ld Y p λZ=>Cl P 37 #[W,Z,f] p λv q=>Ex v 0 λk=>Ex v 1 λa0=>Iaa 2 1 c (I 0) λa1=>Ld a1 q λa2=>Bp .sub (I 10) a2 λa3=>Iaa 2 1 c (I 1) λa4=>Ld a4 q λa5=>Cl P 37 #[a3,a5,g] q λy C=>Ex y 0 λD=>Ex y 1 λa6=>Iaa 2 1 c (I 1) λa7=>Ld a7 C λa8=>Cl P 31 #[a8,k] C λE F=>Ex E 0 λa9=>Ex E 1 λb0=>Iaa 2 1 c (I 1) λb1=>Ld b1 F λb2=>Bp .add k D λb3=>Cl P 31 #[b2,b3] F λG J=>Ex G 0 λb4=>Ex G 1 λb5=>Iaa 2 1 c (I 1) λb6=>Ld b6 J λb7=>Bp .add k D λb8=>Bp .add b8 (.string ⟨#[0]⟩) λb9=>Cl P 31 #[b7,b9] J λL c0=>Ex L 0 λe5=>Ex L 1 λc1=>Dr c0 λt=>Iaa 2 1 c (I 1) λc2=>Ld c2 t λc3=>Lns k λc4=>Bp .sub c4 (I 1) λc5=>Bmax P #[3,3] 3 #[c5,(I 0)] t λc6=>Sst k none (some c6) λc7=>Cl P 31 #[c3,c7] t λM e=>Ex M 0 λe6=>Ex M 1 λc8=>Bp .eql a0 (I 0) λc9=>Vif c9 (Bv .eql a6 (I 0) (Bv .eql b0 (I 0) (Bv .eql b5 (I 0) (Bv .eql a9 f (Bp .add f g λd0=>Bp .eql b4 d0 λd1=>Vif d1 (Bv .eql c1 (I 20) (Bv .eql c8 (I 24) (Cl P 28 #[] e λd2 d3=>R d2 d3) (R (.bool false) e)) (R (.bool false) e)) (R (.bool false) e)) (R (.bool false) e)) (R (.bool false) e)) (R (.bool false) e)) (R (.bool false) e)) (R (.bool false) e))) (λJ60=>Lns f λd4=>Bv .gtr d4 (I 60) (KS [f,g,c]<|J60 (.bool true) m) (Lns g λd5=>Bv .gtr d5 (I 60) (KS [f,g,c]<|J60 (.bool true) m) (Iaa 2 1 c (I 0) λd6=>Ld d6 m λd7=>Cl P 26 #[d7] m λd8 u=>Up .not d8 λd9=>Vif d9 (KS [f,g,c]<|J60 (.bool true) u) (Iaa 2 1 c (I 1) λe0=>Ld e0 u λe1=>Cl P 27 #[e1] u λe2 e3=>Up .not e2 λe4=>KS [f,g,c]<|J60 e4 e3))))
theorem Tz7 (h:Vz7 prog a0 a1 a2 w R):Cl prog 7 #[a0,a1,a2] w R:=
 tz 134 [(.tmp 6)] (s z (s (j [38] [1,2,3] z (i (s z z) z)) (s z (s z (s z (s z (s z (s (r (.staged [0,1,0,0,8,24,56,124,255,511,1023,1023,2047,8191])) (s z z))))))))) [a0,a1,a2] func7 h
def Vz9:VT0:=λP w R=>
 Bd P 65 #[] w λc=>New c 65 w λe f=>R e f
theorem Tz9 (h:Vz9 prog w R):Cl prog 9 #[] w R:=
 tz 3 [(.tmp 0)] (s z (s z z)) [] func9 h
def Vz10:VT3:=λP e g k w R=>
 Bn P 65 false e (.pointer none) λm=>Vif m (R (I 7) w) (Cl P 38 #[g] w λc f=>Ex c 0 λp=>Ex c 1 λq=>Ex c 2 λt=>Bv .neq t (I 0) (R (I 1) f) (Cl P 16 #[e,p,q,k] f λu v=>R u v))
theorem Tz10 (h:Vz10 prog a0 a1 a2 w R):Cl prog 10 #[a0,a1,a2] w R:=
 tz 25 [(.tmp 6)] (s z (s (s z (i (s z z) z)) (s z (s (s z (i (s z z) z)) (s z z))))) [a0,a1,a2] func10 h
def Vz12:VT1:=λP c w R=>
 VLoop 0 [] w λ_ f e=>Bn P 65 true c (.pointer none) λg=>Vif g (Nc c<|Fo 2 c λk=>Ld k e λm=>Bp .rem m (I 8) λp=>Bp .neq p (I 0) λq=>Vif q (Cl P 39 #[c,(.int .u8 0)] e λu t=>KS [c]<|f t) (R (.tuple #[]) e)) (R (.tuple #[]) e)
theorem Tz12 (h:Vz12 prog a0 w R):Cl prog 12 #[a0] w R:=
 tz 14 [] (b (l [] [0] (s (s z (i z z)) (b z)))) [a0] func12 h
def Vz13:VT1:=λP c w R=>
 Bn P 65 false c (.pointer none) λe=>Vif e (R (.string ⟨#[]⟩) w) (Nc c<|Fo 0 c λf=>Ld f w λg=>Cw P 54 9 g w λk m=>Nc c<|Fo 0 c λp=>St p (.slice none 0 0) m λq=>R k q)
theorem Tz13 (h:Vz13 prog a0 w R):Cl prog 13 #[a0] w R:=
 tz 15 [(.tmp 2)] (s z (s (s z (i (s z z) z)) (s z (s z (s z z))))) [a0] func13 h
def Vz14:VT2:=λP f g w R=>
 Cl P 24 #[f] w λk m=>New (zeroP P 48) 48 m λe p=>StA 2 e k p λc=>Fo 0 e λq=>Ld q c λt=>Fo 1 e λu=>Ld u c λv=>Bd P 37 #[(0,t),(1,v),(2,g)] c λy=>Cl P 17 #[y] c λC D=>R C D
theorem Tz14 (h:Vz14 prog a0 a1 w R):Cl prog 14 #[a0,a1] w R:=
 tz 15 [(.tmp 4)] (s z (s z (s z z))) [a0,a1] func14 h
def Vz15:VT1:=λP c w R=>
 Cl P 40 #[c] w λe f=>Cl P 32 #[e] f λg k=>R g k
theorem Tz15 (h:Vz15 prog a0 w R):Cl prog 15 #[a0] w R:=
 tz 6 [(.tmp 2)] (s z (s z z)) [a0] func15 h
def Vz16:VT4:=λP c e f g w R=>
 Bn P 65 false c (.pointer none) λC=>Vif C (R (I 7) w) (VJoin 1 (λ_ D m=>Vif D (R (I 1) m) (Cl P 41 #[e] m λk E=>Cl P 42 #[e,k] E λp F=>Ex p 0 λG=>Ex p 1 λa7=>Lns k λJ=>Cl P 43 #[G,J] F λq L=>Ex q 0 λt=>Ex q 1 λa8=>Lns k λM=>Bp .add M (I 2) λN=>Cl P 44 #[t,N] L λu v=>Ex u 0 λa9=>Ex u 1 λy=>Bp .neq y (I 0) λO=>Vif O (R y v) (Cl P 45 #[c,g,(I 32)] v λb0 Q=>Cl P 45 #[c,(.int .u32 0),(I 1)] Q λb1 S=>Ci .u32 f λU=>Cl P 45 #[c,U,(I 24)] S λb2 W=>Cl P 46 #[c,k] W λb3 Y=>Lns k λZ=>Bp .add Z (I 2) λa0=>Cl P 47 #[c,t,a0] Y λa1 a2=>R a1 a2))) (λJ25=>Bp .eql e (.string ⟨#[]⟩) λa3=>Vif a3 (KS [c,e,f,g]<|J25 (.bool true) w) (Lns e λa4=>Bv .gtr a4 (I 900000) (KS [c,e,f,g]<|J25 (.bool true) w) (Bv .lss f (I 0) (KS [c,e,f,g]<|J25 (.bool true) w) (Lns e λa5=>Bp .geq f a5 λa6=>KS [c,e,f,g]<|J25 a6 w)))))
theorem Tz16 (h:Vz16 prog a0 a1 a2 a3 w R):Cl prog 16 #[a0,a1,a2,a3] w R:=
 tz 81 [(.tmp 8)] (s z (s (b (s z (i (s z z) (j [19] [0,1,2,3] z (i (s z z) z))))) (s z (s z (s z (s (s z (s z (i (s z z) z))) (s z (s z (s z (s z (s z z))))))))))) [a0,a1,a2,a3] func16 h
def Vz17:VT1:=λP C w R=>
 New C 37 w λe m=>Fo 0 e λD=>Ld D m λE=>Cl P 48 #[E] m λc p=>Fo 0 e λF=>Ld F p λG=>Cl P 49 #[G,c] p λq J=>Ex q 0 λL=>Ex q 1 λb2=>Lns c λM=>Cl P 50 #[L,M] J λt N=>Ex t 0 λO=>Ex t 1 λb3=>Dr N λf=>Fo 2 e λQ=>Ld Q f λS=>Cl P 51 #[S,(I 32)] f λU k=>Bp .add U (.string ⟨#[48]⟩) λW=>Fo 1 e λu=>Ld u k λv=>Rk (λw K=>Ld u w λY=>K Y) v f<|Ci .u32 v λZ=>Cl P 51 #[Z,(I 24)] k λa0 y=>Bp .add W a0 λa1=>Cl P 52 #[c] y λa2 a3=>Bp .add a1 a2 λa4=>Lns c λg=>Rk (λw K=>Lns c λa5=>K a5) g y<|Rk (λw K=>Lns c λa6=>K a6) g k<|Rk (λw K=>Lns c λa7=>K a7) g f<|Bp .add g (I 2) λa8=>Cl P 53 #[O,a8] a3 λa9 b0=>Bp .add a4 a9 λb1=>R b1 b0
theorem Tz17 (h:Vz17 prog a0 w R):Cl prog 17 #[a0] w R:=
 tz 43 [(.tmp 2)] (s z (s z (s z (s z (s (r (.staged [0,1,3,7,0,16,48,119,255,0,759,2047,0,0,8192,24576,63223,131071,262143])) z))))) [a0] func17 h
def Vz19:VT1:=λP q w R=>
 Cl P 54 #[q] w λc t=>Lnl c λg=>VLoop 2 [(.string ⟨#[]⟩),(I 0)] t λ_ u k e f=>Bv .lss e g (Ias 2 c e λv=>LdA 2 v f λy=>New (zeroP P 86) 86 f λm C=>StA 2 m y C λp=>LdA 2 m p λD=>Cl P 55 #[D] p λE F=>Bp .add k E λG=>Bp .add e (I 1) λJ=>KS [c,g]<|u G J F) (R k f)
theorem Tz19 (h:Vz19 prog a0 w R):Cl prog 19 #[a0] w R:=
 tz 19 [(.tmp 2)] (s z (s z (s (s z (b (l [3,9] [7,8] (s z (s (i z z) (s (b (s z z)) z)))))) (s z z)))) [a0] func19 h
def Vz20:VT1:=λP c w R=>
 VLoop 2 [(.int .u32 4294967295),(I 0)] w λ_ k f e g=>Lns c λm=>Bv .lss e m (Ixs c e λp=>Cl P 56 #[f,p] g λq t=>Bp .add e (I 1) λu=>KS [c]<|k q u t) (Bp .sub (.int .u32 4294967295) f λv=>R v g)
theorem Tz20 (h:Vz20 prog a0 w R):Cl prog 20 #[a0] w R:=
 tz 18 [(.tmp 2)] (s z (s z (s (s z (b (l [3,4] [0] (s (s z (i z z)) (s (b z) z))))) (s z z)))) [a0] func20 h
def Vz21:VT1:=λP c w R=>
 Bd P 90 #[(0,c)] w λe=>New e 90 w λf g=>R f g
theorem Tz21 (h:Vz21 prog a0 w R):Cl prog 21 #[a0] w R:=
 tz 6 [(.tmp 2)] (s z (s z z)) [a0] func21 h
def Vz22:VT2:=λP e G w R=>
 New (zeroP P 34) 34 w λc g=>Bn P 90 false e (.pointer none) λJ=>Vif J (Bd P 34 #[] g λL=>StA 3 c L g λm=>LdA 3 c m λM=>R (.tuple #[M,(I 7)]) m) (Cl P 57 #[G] g λp k=>Ex p 0 λf=>Ex p 1 λq=>Bv .neq q (I 0) (Bd P 34 #[] k λN=>StA 3 c N k λt=>LdA 3 c t λO=>R (.tuple #[O,q]) t) (Cl P 25 #[e] k λu Q=>VLoop 0 [] Q λ_ S U=>Cl P 58 #[f] U λW v=>Up .not W λY=>Vif Y (Cl P 59 #[f,e] v λy C=>Bv .neq y (I 0) (Cl P 60 #[e,u] C λa4 D=>Bd P 34 #[] D λZ=>StA 3 c Z D λE=>LdA 3 c E λa0=>R (.tuple #[a0,y]) E) (KS [e,c,f,u]<|S C)) (Cl P 61 #[f] v λa1 a2=>StA 3 c a1 a2 λF=>LdA 3 c F λa3=>R (.tuple #[a3,(I 0)]) F)))
theorem Tz22 (h:Vz22 prog a0 a1 w R):Cl prog 22 #[a0,a1] w R:=
 tz 39 [(.cell 4 34),(.tmp 5)] (s z (s (s z (i (s z z) z)) (s z (s (s z (i (s z z) z)) (s z (s (b (l [] [0,4,6,8] (s (s z (i z z)) (b (s z (s z (i (s z (s z z)) z))))))) (s z z))))))) [a0,a1] func22 h
def Vz23:VT1:=λP C w R=>
 New C 34 w λc e=>Fo 0 c λD=>Ld D e λE=>Fo 1 c λF=>Ld F e λG=>Cl P 62 #[E,G] e λg k=>Ex g 0 λJ=>Ex g 1 λm=>Bv .neq m (I 0) (R (.tuple #[(.string ⟨#[]⟩),m]) k) (Cl P 63 #[J] k λp q=>Ex p 0 λt=>Ex p 1 λL=>Bv .neq L (I 0) (R (.tuple #[(.string ⟨#[]⟩),(I 25)]) q) (Dr q λu=>Cl P 64 #[t] u λM f=>Fo 2 c λv=>Ld v f λy=>Rk (λw K=>Ld v w λN=>K N) y u<|Bv .neq M y (R (.tuple #[(.string ⟨#[]⟩),(I 21)]) f) (R (.tuple #[t,(I 0)]) f)))
theorem Tz23 (h:Vz23 prog a0 w R):Cl prog 23 #[a0] w R:=
 tz 33 [(.tmp 2),(.tmp 3)] (s z (s z (s (s z (i (s z z) z)) (s z (s (b (s z (i (s z z) (s (r (.staged [0,1,0,4,15,31])) (i (s z z) z))))) (s z z)))))) [a0] func23 h
def Vz24:VT1:=λP c w R=>
 New (zeroP P 48) 48 w λe g=>Cl P 66 #[c] g λk m=>Cl P 65 #[c,k] m λp q=>StA 2 e p q λf=>LdA 2 e f λt=>R t f
theorem Tz24 (h:Vz24 prog a0 w R):Cl prog 24 #[a0] w R:=
 tz 7 [(.cell 2 48)] (s z (s z z)) [a0] func24 h
def Vz25:VT1:=λP c w R=>
 Bn P 90 false c (.pointer none) λe=>Vif e (R (I 0) w) (Nc c<|Fo 2 c λf=>Ld f w λg=>R g w)
theorem Tz25 (h:Vz25 prog a0 w R):Cl prog 25 #[a0] w R:=
 tz 9 [(.tmp 2)] (s z (s (s z (i (s z z) z)) (s z z))) [a0] func25 h
def Vz26:VT1:=λP c w R=>
 Bv .geq c (I 1) (Bp .leq c (I 9) λe=>R e w) (R (.bool false) w)
theorem Tz26 (h:Vz26 prog a0 w R):Cl prog 26 #[a0] w R:=
 tz 9 [(.tmp 2)] (s z (s z z)) [a0] func26 h
def Vz27:VT1:=λP c w R=>
 Bv .geq c (I 24) (Bp .leq c (I 100000) λe=>R e w) (R (.bool false) w)
theorem Tz27 (h:Vz27 prog a0 w R):Cl prog 27 #[a0] w R:=
 tz 9 [(.tmp 2)] (s z (s z z)) [a0] func27 h
def Vz28:VT0:=λP w R=>
 Cl P 67 #[(.string ⟨#[]⟩)] w λe m=>Ex e 0 λJ=>Ex e 1 λp=>Cl P 67 #[(.string ⟨#[66,90,120]⟩)] m λf q=>Ex f 0 λL=>Ex f 1 λt=>Cl P 67 #[(.string ⟨#[66,90,104,57,23,114,69,56,80,144,0,0,0,0]⟩)] q λg u=>Ex g 0 λv=>Ex g 1 λy=>Cl P 30 #[(I 1),(I 100000),(.string ⟨#[97,98]⟩)] u λC D=>Cl P 67 #[C] D λk c=>Ex k 0 λE=>Ex k 1 λF=>Bv .eql p (I 24) (Bv .eql t (I 20) (Bv .eql y (I 0) (Bv .eql v (.string ⟨#[]⟩) (Bv .eql F (I 0) (Bp .eql E (.string ⟨#[97,98]⟩) λG=>R G c) (R (.bool false) c)) (R (.bool false) c)) (R (.bool false) c)) (R (.bool false) c)) (R (.bool false) c)
theorem Tz28 (h:Vz28 prog w R):Cl prog 28 #[] w R:=
 tz 48 [(.tmp 0)] (s z (s z (s z (s z (s z (s z z)))))) [] func28 h
def Vz29:VT1:=λP c w R=>
 VLoop 2 [(.string ⟨#[]⟩),(I 0)] w λ_ k f e g=>Lns c λm=>Bv .lss e m (Ixs c e λp=>Ci .u32 p λq=>Cl P 51 #[q,(I 8)] g λt u=>Bp .add f t λv=>Bp .add e (I 1) λy=>KS [c]<|k v y u) (R f g)
theorem Tz29 (h:Vz29 prog a0 w R):Cl prog 29 #[a0] w R:=
 tz 19 [(.tmp 2)] (s z (s z (s (s z (b (l [3,4] [0] (s (s z (i z z)) (s (b z) z))))) (s z z)))) [a0] func29 h
def Vz30:VT3:=λP m D E w R=>
 Cl P 68 #[m] w λF G=>Bp .mul m D λJ=>Bp .sub J (I 19) λL=>Cl P 69 #[E,L] G λe M=>Lnl e λp=>VLoop 3 [F,(.slice none 0 0),(I 0)] M λ_ N q t f g=>Bp .lss f p λO=>Vif O (Ias 2 e f λQ=>LdA 2 Q g λS=>New (zeroP P 106) 106 g λc U=>StA 2 c S U λW=>Dr W λk=>Bp .add q (.string ⟨#[48,48,49,49,48,48,48,49,48,49,48,48,48,48,48,49,48,49,48,49,49,48,48,49,48,48,49,48,48,49,49,48,48,49,48,49,48,48,49,49,48,49,48,49,49,48,48,49]⟩) λY=>Fo 0 c λu=>Ld u k λv=>LdA 2 c k λZ=>Cl P 70 #[Z] k λa0 y=>Rk (λw K=>Ld u w λa1=>K a1) v y<|Cl P 14 #[v,a0] y λa2 C=>Bp .add Y a2 λa3=>LdA 2 c C λa4=>Cl P 70 #[a4] C λa5 a6=>Bs P 102 1 #[(0,a5)] a6 λa7 a8=>Ap P #[102,102] 102 #[t,a7] a8 λa9 b0=>Bp .add f (I 1) λb1=>KS [e,p]<|N a3 a9 b1 b0) (Cl P 71 #[t] g λb2 b3=>Bp .add q b2 λb4=>Cl P 15 #[b4] b3 λb5 b6=>R b5 b6)
theorem Tz30 (h:Vz30 prog a0 a1 a2 w R):Cl prog 30 #[a0,a1,a2] w R:=
 tz 43 [(.tmp 6)] (s z (s z (s z (s (s z (b (l [7,8,20] [18,19] (s z (s (i z z) (s (b (s z (s (r (.staged [0,1,0,4,0,16,60,127,255])) z))) z)))))) (s z z))))) [a0,a1,a2] func30 h
def Vz31:VT2:=λP F G w R=>
 Cl P 72 #[F] w λm p=>Ex m 0 λc=>Ex m 1 λq=>Bv .neq q (I 0) (R (.tuple #[(.string ⟨#[]⟩),q]) p) (Cl P 21 #[G] p λe J=>New (zeroP P 114) 114 J λf L=>VLoop 0 [] L λ_ t M=>VJoin 1 (λ_ N u=>Vif N (Cl P 75 #[f] u λO Q=>R (.tuple #[O,(I 0)]) Q) (Cl P 76 #[c,e] u λv g=>Ex v 0 λS=>Ex v 1 λk=>Bv .eql k (I 3) (R (.tuple #[(.string ⟨#[]⟩),(I 24)]) g) (Bv .neq k (I 0) (R (.tuple #[(.string ⟨#[]⟩),k]) g) (Bv .eql S (I 1) (Cl P 77 #[c] g λU W=>Cl P 23 #[U] W λy C=>Ex y 0 λY=>Ex y 1 λD=>Bv .neq D (I 0) (R (.tuple #[(.string ⟨#[]⟩),D]) C) (Cl P 78 #[f,Y] C λa4 Z=>KS [c,e,f]<|t Z)) (KS [c,e,f]<|t g))))) (λJ22=>Cl P 73 #[c] M λa0 E=>Vif a0 (Cl P 74 #[e] E λa1 a2=>Bp .eql a1 (I 0) λa3=>KS [c,e,f]<|J22 a3 a2) (KS [c,e,f]<|J22 (.bool false) E)))
theorem Tz31 (h:Vz31 prog a0 a1 w R):Cl prog 31 #[a0,a1] w R:=
 tz 59 [(.tmp 4),(.tmp 5)] (s z (s z (s (s z (i (s z z) z)) (s z (s z (b (l [] [6,8,9] (b (s (j [30] [6,8,9] z (i (s z z) z)) (s z (b (s z (i (s z z) (s z (i (s z z) (s z (i (s z (s (s z (i (s z z) z)) z)) z))))))))))))))))) [a0,a1] func31 h
def Vz32:VT1:=λP g w R=>
 VLoop 2 [g,(.string ⟨#[]⟩)] w λ_ k c e f=>Lns c λm=>Bv .geq m (I 8) (Sst c none (some (I 8)) λp=>Cl P 79 #[p] f λq t=>Ci .u8 q λu=>Bs P 54 1 #[(0,u)] t λv y=>Cw P 54 9 v y λC D=>Bp .add e C λE=>Sst c (some (I 8)) none λF=>KS []<|k F E D) (R e f)
theorem Tz32 (h:Vz32 prog a0 w R):Cl prog 32 #[a0] w R:=
 tz 18 [(.tmp 2)] (s z (s z (s (b (l [0,3] [] (s (s z (i z z)) (b (s z z))))) (s z z)))) [a0] func32 h
def Vz33:VT1:=λP c w R=>
 VJoin 1 (λ_ q k=>Vif q (R (.tuple #[(.pointer none),(I 1)]) k) (Cl P 9 #[] k λt m=>Bd P 123 #[(0,t)] m λu=>New u 123 m λe v=>VLoop 1 [(I 0)] v λ_ y f g=>Bv .lss f (I 3) (Dr g λp=>Nc e<|Fo 0 e λC=>Ld C p λD=>Ixs (.string ⟨#[66,90,104]⟩) f λE=>Ci .u32 E λF=>Cl P 45 #[D,F,(I 8)] p λW G=>Bp .add f (I 1) λJ=>KS [c,e]<|y J G) (Nc e<|Fo 0 e λL=>Ld L g λM=>Bp .add (I 48) c λN=>Ci .u32 N λO=>Cl P 45 #[M,O,(I 8)] g λY Q=>R (.tuple #[e,(I 0)]) Q))) (λJ20=>Bp .lss c (I 1) λS=>Vif S (KS [c]<|J20 (.bool true) w) (Bp .gtr c (I 9) λU=>KS [c]<|J20 U w))
theorem Tz33 (h:Vz33 prog a0 w R):Cl prog 33 #[a0] w R:=
 tz 36 [(.tmp 2),(.tmp 3)] (s z (s (j [11] [0] z (i (s z z) z)) (s z (s (s z (b (l [15] [0,4] (s z (s (i z z) (s (b (s z (r (.staged [0,1,3,7,0,16,48,127])))) z)))))) (s z (s z z)))))) [a0] func33 h
def Vz34:VT3:=λP c e f w R=>
 VJoin 1 (λ_ p k=>Vif p (R (I 7) k) (Cl P 38 #[e] k λg m=>Ex g 0 λq=>Ex g 1 λt=>Ex g 2 λu=>Bv .neq u (I 0) (R (I 1) m) (Cl P 80 #[c,q,t,f] m λv y=>R v y))) (λJ8=>Bn P 123 false c (.pointer none) λC=>Vif C (KS [c,e,f]<|J8 (.bool true) w) (Nc c<|Fo 2 c λD=>Ld D w λE=>KS [c,e,f]<|J8 E w))
theorem Tz34 (h:Vz34 prog a0 a1 a2 w R):Cl prog 34 #[a0,a1,a2] w R:=
 tz 31 [(.tmp 6)] (s z (s (j [17] [0,1,2] z (i (s z z) z)) (s z (s (s z (i (s z z) z)) (s z z))))) [a0,a1,a2] func34 h
def Vz35:VT1:=λP c w R=>
 VJoin 1 (λ_ k f=>Vif k (R (I 7) f) (Cl P 81 #[c,(.int .u64 25779555029136)] f λL m=>Dr m λe=>Nc c<|Fo 0 c λp=>Ld p e λq=>Nc c<|Fo 1 c λt=>Ld t e λu=>Cl P 45 #[q,u,(I 32)] e λM g=>Nc c<|Fo 0 c λv=>Ld v g λy=>Cl P 12 #[y] g λN C=>Nc c<|Fo 2 c λD=>St D (.bool true) C λE=>R (I 0) E)) (λJ14=>Bn P 123 false c (.pointer none) λF=>Vif F (KS [c]<|J14 (.bool true) w) (Nc c<|Fo 2 c λG=>Ld G w λJ=>KS [c]<|J14 J w))
theorem Tz35 (h:Vz35 prog a0 w R):Cl prog 35 #[a0] w R:=
 tz 30 [(.tmp 2)] (s z (s (j [10] [0] z (i (s z z) z)) (s z (s (r (.staged [0,1,3,7,0,16,48,112,255])) (s z (s z (s z z))))))) [a0] func35 h
def Vz36:VT1:=λP c w R=>
 Bn P 123 false c (.pointer none) λe=>Vif e (R (.string ⟨#[]⟩) w) (Nc c<|Fo 0 c λf=>Ld f w λg=>Cl P 13 #[g] w λk m=>R k m)
theorem Tz36 (h:Vz36 prog a0 w R):Cl prog 36 #[a0] w R:=
 tz 10 [(.tmp 2)] (s z (s (s z (i (s z z) z)) (s z z))) [a0] func36 h
def Vz37:VT3:=λP p F G w R=>
 Cl P 82 #[p,F] w λq t=>Ex q 0 λJ=>Ex q 1 λu=>Bv .neq u (I 0) (R (.tuple #[(.string ⟨#[]⟩),u]) t) (Cl P 33 #[p] t λv L=>Ex v 0 λc=>Ex v 1 λa4=>Cl P 83 #[G,J] L λy M=>Ex y 0 λe=>Ex y 1 λa5=>Lnl e λC=>VLoop 1 [(I 0)] M λ_ N f g=>Bv .lss f C (Ias 3 e f λO=>LdA 3 O g λQ=>New (zeroP P 132) 132 g λk S=>StA 3 k Q S λm=>Fo 0 k λU=>Ld U m λW=>Fo 1 k λY=>Ld Y m λZ=>Cl P 34 #[c,W,Z] m λD E=>Bv .neq D (I 0) (R (.tuple #[(.string ⟨#[]⟩),D]) E) (Bp .add f (I 1) λa0=>KS [c,e,C]<|N a0 E)) (Cl P 35 #[c] g λa6 a1=>Cl P 36 #[c] a1 λa2 a3=>R (.tuple #[a2,(I 0)]) a3))
theorem Tz37 (h:Vz37 prog a0 a1 a2 w R):Cl prog 37 #[a0,a1,a2] w R:=
 tz 57 [(.tmp 6),(.tmp 7)] (s z (s z (s (s z (i (s z z) z)) (s z (s z (s (s z (b (l [39] [10,37,38] (s z (s (i z z) (s (b (s z (s z (s z (i (s z z) z))))) z)))))) (s z (s z z)))))))) [a0,a1,a2] func37 h
def Vz38:VT1:=λP p w R=>
 Cl P 84 #[p] w λe f=>Ex e 0 λc=>Ex e 1 λg=>Bv .neq g (I 0) (R (.tuple #[(.string ⟨#[]⟩),(I 0),g]) f) (VLoop 0 [] f λ_ q t=>Cl P 85 #[c] t λu k=>Up .not u λv=>Vif v (Cl P 86 #[c,(I 1099511627776)] k λF y=>KS [c]<|q y) (Cl P 87 #[c] k λm C=>Ex m 0 λD=>Ex m 1 λE=>R (.tuple #[D,E,(I 0)]) C))
theorem Tz38 (h:Vz38 prog a0 w R):Cl prog 38 #[a0] w R:=
 tz 29 [(.tmp 2),(.tmp 3),(.tmp 4)] (s z (s z (s (s z (i (s z z) z)) (s (b (l [] [5] (s (s z (i z z)) (b z)))) (s z (s z z)))))) [a0] func38 h
def Vz39:VT2:=λP c u w R=>
 Nc c<|Fo 2 c λv=>Ld v w λy=>Bp .rem y (I 8) λf=>Dr w λg=>Nc c<|Fo 1 c λC=>Ld C g λD=>Bp .sub (I 7) f λE=>Bp .shl u E λF=>Bp .or D F λG=>Nc c<|Fo 1 c λJ=>St J G g λk=>Nc c<|Fo 2 c λL=>Ld L k λM=>Bp .add M (I 1) λN=>Nc c<|Fo 2 c λO=>St O N k λm=>Bp .eql f (I 7) λQ=>Vif Q (Dr m λe=>Nc c<|Fo 0 c λp=>Ld p e λq=>Nc c<|Fo 1 c λS=>Ld S e λU=>Bs P 54 1 #[(0,U)] e λW t=>Rk (λw K=>Ld p w λY=>K Y) q t<|Ap P #[54,54] 54 #[q,W] t λZ a0=>Nc c<|Fo 0 c λa1=>St a1 Z a0 λa2=>Nc c<|Fo 1 c λa3=>St a3 (.int .u8 0) a2 λa4=>R (.tuple #[]) a4) (R (.tuple #[]) m)
theorem Tz39 (h:Vz39 prog a0 a1 w R):Cl prog 39 #[a0,a1] w R:=
 tz 46 [] (s z (s (r (.staged [0,1,3,7,0,0,32,112,255,511,1023,2047])) (s z (s z (i (s (r (.staged [0,0,2,6,14,0,32,96,224,480,1022,2047,4095,8191])) z) z))))) [a0,a1] func39 h
def Vz40:VT1:=λP f w R=>
 VLoop 1 [f] w λ_ g c e=>Lns c λk=>Bp .rem k (I 8) λm=>Bp .neq m (I 0) λp=>Vif p (Bp .add c (.string ⟨#[48]⟩) λq=>KS []<|g q e) (R c e)
theorem Tz40 (h:Vz40 prog a0 w R):Cl prog 40 #[a0] w R:=
 tz 10 [(.tmp 2)] (s z (s (b (l [0] [] (s (s z (i z z)) (b z)))) (s z z))) [a0] func40 h
def Vz41:VT1:=λP c w R=>
 New (zeroP P 139) 139 w λe m=>Lns c λk=>VLoop 1 [(I 0)] m λ_ p f g=>Bv .lss f k (Ixs c f λq=>Iaa 256 1 e q λt=>St t (.bool true) g λu=>Bp .add f (I 1) λv=>KS [c,e,k]<|p v u) (LdA 256 e g λy=>Cl P 88 #[y] g λC D=>R C D)
theorem Tz41 (h:Vz41 prog a0 w R):Cl prog 41 #[a0] w R:=
 tz 17 [(.tmp 2)] (s z (s z (s (s z (b (l [7] [0,3,6] (s z (s (i z z) (s (b (s z z)) z)))))) (s z z)))) [a0] func41 h
def Vz42:VT2:=λP f D w R=>
 Cl P 89 #[D] w λg k=>Ex g 0 λm=>Ex g 1 λp=>Bv .neq p (I 0) (R (.tuple #[(.slice none 0 0),p]) k) (Lns f λq=>Ms P 69 q q k λc E=>Lnl c λt=>VLoop 1 [(I 0)] E λ_ F e u=>Bv .lss e t (Ixs f e λG=>Cl P 90 #[m,G] u λv y=>Ex v 0 λJ=>Ex v 1 λC=>Bv .neq C (I 0) (R (.tuple #[(.slice none 0 0),C]) y) (Ias 1 c e λL=>St L J y λM=>Bp .add e (I 1) λN=>KS [f,m,c,t]<|F N M)) (R (.tuple #[c,(I 0)]) u))
theorem Tz42 (h:Vz42 prog a0 a1 w R):Cl prog 42 #[a0,a1] w R:=
 tz 45 [(.tmp 4),(.tmp 5)] (s z (s z (s (s z (i (s z z) z)) (s z (s (s z (b (l [25] [0,6,8,24] (s z (s (i z z) (s (b (s z (s z (s (s z (i (s z z) z)) z)))) z)))))) (s z z)))))) [a0,a1] func42 h
def Vz43:VT2:=λP e c w R=>
 Cl P 91 #[c] w λy u=>Up .not y λC=>Vif C (R (.tuple #[(.slice none 0 0),(I 1)]) u) (Lnl e λk=>VLoop 3 [(.slice none 0 0),(I 0),(I 0)] u λ_ v m p f q=>Bv .lss f k (Ias 1 e f λD=>Ld D q λg=>VJoin 1 (λ_ E t=>Vif E (R (.tuple #[(.slice none 0 0),(I 1)]) t) (Bv .eql g (I 0) (Bp .add p (I 1) λF=>Bp .add f (I 1) λG=>KS [c,e,k]<|v m F G t) (Cl P 92 #[p] t λJ L=>Ap P #[69,69] 69 #[m,J] L λM N=>Bp .add g (I 1) λO=>Bs P 69 1 #[(0,O)] N λQ S=>Ap P #[69,69] 69 #[M,Q] S λU W=>Bp .add f (I 1) λY=>KS [c,e,k]<|v U (I 0) Y W))) (λJ21=>Bp .lss g (I 0) λZ=>Vif Z (KS [c,m,p,g,e,k,f]<|J21 (.bool true) q) (Bp .geq g c λa0=>KS [c,m,p,g,e,k,f]<|J21 a0 q))) (Cl P 92 #[p] q λa1 a2=>Ap P #[69,69] 69 #[m,a1] a2 λa3 a4=>Bp .add c (I 1) λa5=>Bs P 69 1 #[(0,a5)] a4 λa6 a7=>Ap P #[69,69] 69 #[a3,a6] a7 λa8 a9=>R (.tuple #[a8,(I 0)]) a9))
theorem Tz43 (h:Vz43 prog a0 a1 w R):Cl prog 43 #[a0,a1] w R:=
 tz 51 [(.tmp 4),(.tmp 5)] (s z (s (s z (i (s z z) z)) (s z (s z (s (s z (b (l [6,7,15] [1,13,14] (s z (s (i z z) (s (b (s z (s (b (j [19] [1,6,7,9,13,14,15] z (i (s z z) (s z (i (s z z) z))))) (s z (s z z))))) z)))))) (s z (s z z))))))) [a0,a1] func43 h
def Vz44:VT2:=λP g E w R=>
 Cl P 93 #[g,E] w λp F=>Ex p 0 λG=>Ex p 1 λq=>New (zeroP P 148) 148 F λc J=>StA 2 c G J λe=>Bv .neq q (I 0) (R (.tuple #[(I 0),q]) e) (Fo 1 c λL=>Ld L e λM=>Fo 0 c λN=>Ld N e λO=>Lnl O λQ=>Cl P 94 #[M,Q] e λt u=>Ex t 0 λS=>Ex t 1 λa8=>Fo 0 c λU=>Ld U u λk=>Lnl k λv=>VLoop 2 [S,(I 0)] u λ_ W y m f=>Bv .lss m v (Ias 1 k m λY=>Ld Y f λZ=>Cl P 95 #[Z] f λC a0=>Ex C 0 λa1=>Ex C 1 λa9=>Bp .add y a1 λa2=>Bp .add m (I 1) λa3=>KS [g,c,k,v]<|W a2 a3 a0) (LdA 2 c f λa4=>Cl P 96 #[g,a4] f λD a5=>Ex D 0 λa6=>Ex D 1 λb0=>Bp .add y a6 λa7=>R (.tuple #[a7,(I 0)]) a5))
theorem Tz44 (h:Vz44 prog a0 a1 w R):Cl prog 44 #[a0,a1] w R:=
 tz 59 [(.tmp 4),(.tmp 5)] (s z (s z (s (s z (i (s z z) z)) (s z (s (s z (b (l [8,37] [0,6,35,36] (s z (s (i z z) (s (b (s z (s z z))) z)))))) (s z (s z z))))))) [a0,a1] func44 h
def Vz45:VT3:=λP e f c w R=>
 Bn P 65 false e (.pointer none) λp=>Vif p (R (I 7) w) (Cl P 97 #[f,c] w λq k=>Up .not q λt=>Vif t (R (I 1) k) (VLoop 1 [(I 0)] k λ_ u g m=>Bv .lss g c (Bp .sub c (I 1) λv=>Bp .sub v g λy=>Bp .shr f y λC=>Bp .and C (.int .u32 1) λD=>Ci .u8 D λE=>Cl P 39 #[e,E] m λJ F=>Bp .add g (I 1) λG=>KS [e,f,c,c]<|u G F) (R (I 0) m)))
theorem Tz45 (h:Vz45 prog a0 a1 a2 w R):Cl prog 45 #[a0,a1,a2] w R:=
 tz 31 [(.tmp 6)] (s z (s (b (s z (i (s z z) (s z (i (s z z) z))))) (s (s z (b (l [17] [0,1,2,16] (s z (s (i z z) (s (b (s z z)) z)))))) (s z z)))) [a0,a1,a2] func45 h
def Vz46:VT2:=λP c u w R=>
 Bn P 65 false c (.pointer none) λG=>Vif G (R (I 7) w) (Cl P 98 #[u] w λJ v=>Up .not J λL=>Vif L (R (I 1) v) (Cl P 99 #[u] v λM N=>New (zeroP P 155) 155 N λe O=>StA 16 e M O λy=>LdA 16 e y λk=>VLoop 2 [(.int .u32 0),(I 0)] y λ_ C m f p=>Bv .lss f (I 16) (Ixa 16 1 false k f λQ=>Bv .neq Q (.int .u32 0) (Bp .sub (I 15) f λS=>Bp .shl (.int .u32 1) S λU=>Bp .or m U λW=>Bp .add f (I 1) λY=>KS [c,e,k]<|C W Y p) (Bp .add f (I 1) λZ=>KS [c,e,k]<|C m Z p)) (Cl P 45 #[c,m,(I 16)] p λa4 D=>LdA 16 e D λq=>VLoop 1 [(I 0)] D λ_ E g t=>Bp .lss g (I 16) λa0=>Vif a0 (Ixa 16 1 false q g λF=>Bv .neq F (.int .u32 0) (Cl P 45 #[c,F,(I 16)] t λa5 a1=>Bp .add g (I 1) λa2=>KS [c,q]<|E a2 a1) (Bp .add g (I 1) λa3=>KS [c,q]<|E a3 t)) (R (I 0) t))))
theorem Tz46 (h:Vz46 prog a0 a1 w R):Cl prog 46 #[a0,a1] w R:=
 tz 46 [(.tmp 4)] (s z (s (b (s z (i (s z z) (s z (i (s z z) z))))) (s z (s z (s (s z (b (l [6,21] [0,5,20] (s z (s (i z z) (s (b (s z (s z (i z z)))) z)))))) (s z (s (s z (b (l [37] [0,36] (s z (s (i z z) (s (b (s z (s z (i z z)))) z)))))) (s z z)))))))) [a0,a1] func46 h
def Vz47:VT3:=λP e g J w R=>
 Bn P 65 false e (.pointer none) λL=>Vif L (R (I 7) w) (Cl P 93 #[g,J] w λv M=>Ex v 0 λN=>Ex v 1 λy=>New (zeroP P 148) 148 M λc O=>StA 2 c N O λk=>Bv .neq y (I 0) (R y k) (Fo 1 c λQ=>Ld Q k λS=>Fo 0 c λU=>Ld U k λW=>Lnl W λY=>Cl P 100 #[e,S,Y] k λc3 C=>Fo 0 c λZ=>Ld Z C λp=>Lnl p λD=>VLoop 2 [(.slice none 0 0),(I 0)] C λ_ a0 q t u=>Bv .lss t D (Ias 1 p t λa1=>Ld a1 u λE=>Cl P 101 #[e,E] u λc4 a2=>Cl P 102 #[E] a2 λF a3=>Ex F 0 λa4=>Ex F 1 λc5=>Bs P 157 1 #[(0,a4)] a3 λa5 a6=>Ap P #[157,157] 157 #[q,a5] a6 λa7 a8=>Bp .add t (I 1) λa9=>KS [e,g,c,p,D]<|a0 a7 a9 a8) (Lnl g λG=>VLoop 1 [(I 0)] u λ_ b0 m f=>Bp .lss m G λb1=>Vif b1 (Ias 1 g m λb2=>Ld b2 f λb3=>Fo 1 c λb4=>Ld b4 f λb5=>Bp .quo m (I 50) λb6=>Ias 1 b5 b6 λb7=>Ld b7 f λb8=>Ias 1 q b8 λb9=>Ld b9 f λc0=>Cl P 103 #[c0,e,b3] f λc6 c1=>Bp .add m (I 1) λc2=>KS [e,c,q,g,G]<|b0 c2 c1) (R (I 0) f))))
theorem Tz47 (h:Vz47 prog a0 a1 a2 w R):Cl prog 47 #[a0,a1,a2] w R:=
 tz 74 [(.tmp 6)] (s z (s (s z (i (s z z) z)) (s z (s (s z (i (s z z) z)) (s z (s z (s (s z (b (l [9,37] [0,1,7,35,36] (s z (s (i z z) (s (b (s z (s z (s z z)))) z)))))) (s (s z (b (l [56] [0,7,9,54,55] (s z (s (i z z) (s (b (s z z)) z)))))) (s z z))))))))) [a0,a1,a2] func47 h
def Vz48:VT1:=λP e w R=>
 VLoop 2 [(.string ⟨#[]⟩),(I 0)] w λ_ g f c k=>Bv .lss c (I 256) (Cl P 104 #[e,c] k λp m=>Vif p (Ci .u8 c λq=>Bs P 54 1 #[(0,q)] m λt u=>Cw P 54 9 t u λv y=>Bp .add f v λC=>Bp .add c (I 1) λD=>KS [e]<|g C D y) (Bp .add c (I 1) λE=>KS [e]<|g f E m)) (R f k)
theorem Tz48 (h:Vz48 prog a0 w R):Cl prog 48 #[a0] w R:=
 tz 19 [(.tmp 2)] (s z (s z (s (s z (b (l [3,5] [0] (s z (s (i z z) (s (b (s z (s z (i z z)))) z)))))) (s z z)))) [a0] func48 h
def Vz49:VT2:=λP c g w R=>
 Cl P 105 #[g] w λu k=>Up .not u λv=>Vif v (R (.tuple #[(.slice none 0 0),(I 1)]) k) (VLoop 3 [(.slice none 0 0),g,(I 0)] k λ_ y m p e q=>Lns c λC=>Bv .lss e C (Ixs c e λD=>Cl P 106 #[p,D] q λf t=>Bv .lss f (I 0) (R (.tuple #[(.slice none 0 0),(I 6)]) t) (Bs P 69 1 #[(0,f)] t λE F=>Ap P #[69,69] 69 #[m,E] F λG J=>Cl P 107 #[p,f] J λL M=>Bp .add e (I 1) λN=>KS [c]<|y G L N M)) (R (.tuple #[m,(I 0)]) q))
theorem Tz49 (h:Vz49 prog a0 a1 w R):Cl prog 49 #[a0,a1] w R:=
 tz 35 [(.tmp 4),(.tmp 5)] (s z (s (s z (i (s z z) z)) (s z (s z (s (s z (b (l [6,7,8] [0] (s (s z (i z z)) (s (b (s z (s (s z (i (s z z) z)) (s z z)))) z))))) (s z z)))))) [a0,a1] func49 h
def Vz50:VT2:=λP e c w R=>
 VJoin 1 (λ_ y u=>Vif y (R (.tuple #[(.slice none 0 0),(I 1)]) u) (Lnl e λk=>VLoop 3 [(.slice none 0 0),(I 0),(I 0)] u λ_ v m p f q=>Bv .lss f k (Ias 1 e f λC=>Ld C q λg=>VJoin 1 (λ_ D t=>Vif D (R (.tuple #[(.slice none 0 0),(I 1)]) t) (Bv .eql g (I 0) (Bp .add p (I 1) λE=>Bp .add f (I 1) λF=>KS [c,e,k]<|v m E F t) (Cl P 108 #[p] t λG J=>Ap P #[69,69] 69 #[m,G] J λL M=>Bp .add g (I 1) λN=>Bs P 69 1 #[(0,N)] M λO Q=>Ap P #[69,69] 69 #[L,O] Q λS U=>Bp .add f (I 1) λW=>KS [c,e,k]<|v S (I 0) W U))) (λJ20=>Bp .lss g (I 0) λY=>Vif Y (KS [c,m,p,g,e,k,f]<|J20 (.bool true) q) (Bp .geq g c λZ=>KS [c,m,p,g,e,k,f]<|J20 Z q))) (Cl P 108 #[p] q λa0 a1=>Ap P #[69,69] 69 #[m,a0] a1 λa2 a3=>Bp .add c (I 1) λa4=>Bs P 69 1 #[(0,a4)] a3 λa5 a6=>Ap P #[69,69] 69 #[a2,a5] a6 λa7 a8=>R (.tuple #[a7,(I 0)]) a8))) (λJ28=>Bp .lss c (I 1) λa9=>Vif a9 (KS [e,c]<|J28 (.bool true) w) (Bp .gtr c (I 256) λb0=>KS [e,c]<|J28 b0 w))
theorem Tz50 (h:Vz50 prog a0 a1 w R):Cl prog 50 #[a0,a1] w R:=
 tz 53 [(.tmp 4),(.tmp 5)] (s z (s (j [15] [0,1] z (i (s z z) z)) (s z (s z (s (s z (b (l [6,7,18] [1,16,17] (s z (s (i z z) (s (b (s z (s (j [28] [1,6,7,9,16,17,18] z (i (s z z) z)) (s z (i z (s z (s z z))))))) z)))))) (s z (s z (s z z)))))))) [a0,a1] func50 h
def Vz51:VT2:=λP m e w R=>
 VLoop 3 [m,(.string ⟨#[]⟩),(I 0)] w λ_ p c f g k=>Bv .lss g e (Bp .rem c (.int .u32 2) λq=>Bp .rem c (.int .u32 2) λt=>Bp .add t (.int .u32 1) λu=>Sst (.string ⟨#[48,49]⟩) (some q) (some u) λv=>Bp .add v f λy=>Bp .quo c (.int .u32 2) λC=>Bp .add g (I 1) λD=>KS [e]<|p C y D k) (R f k)
theorem Tz51 (h:Vz51 prog a0 a1 w R):Cl prog 51 #[a0,a1] w R:=
 tz 21 [(.tmp 4)] (s z (s z (s (s z (b (l [0,5,7] [6] (s z (s (i z z) (s (b (s z z)) z)))))) (s z z)))) [a0,a1] func51 h
def Vz52:VT1:=λP e w R=>
 VLoop 3 [(.string ⟨#[]⟩),(.string ⟨#[]⟩),(I 0)] w λ_ q f g c t=>Bv .lss c (I 16) (VLoop 3 [(.string ⟨#[]⟩),(.bool false),(I 0)] t λ_ u m v k p=>Bv .lss k (I 16) (Bp .mul (I 16) c λC=>Bp .add C k λD=>Cl P 104 #[e,D] p λE y=>Vif E (Bp .add m (.string ⟨#[49]⟩) λF=>Bp .add k (I 1) λG=>KS [e,f,g,c,c]<|u F (.bool true) G y) (Bp .add m (.string ⟨#[48]⟩) λJ=>Bp .add k (I 1) λL=>KS [e,f,g,c,c]<|u J v L y)) (Vif v (Bp .add f (.string ⟨#[49]⟩) λM=>Bp .add g m λN=>Bp .add c (I 1) λO=>KS [e]<|q M N O p) (Bp .add f (.string ⟨#[48]⟩) λQ=>Bp .add c (I 1) λS=>KS [e]<|q Q g S p))) (Bp .add f g λU=>R U t)
theorem Tz52 (h:Vz52 prog a0 w R):Cl prog 52 #[a0] w R:=
 tz 38 [(.tmp 2)] (s z (s z (s z (s (s z (b (l [3,4,9] [0] (s z (s (i z z) (s (b (s z (s z (s z (s (s z (b (l [6,7,12] [0,3,4,5,9] (s z (s (i z z) (s (b (s z (s z (i (s z z) z)))) z)))))) (s z (i (s z z) z))))))) z)))))) (s z z))))) [a0] func52 h
def Vz53:VT2:=λP f F w R=>
 Cl P 109 #[f,F] w λG J=>New (zeroP P 166) 166 J λc L=>StA 2 c G L λk=>Fo 1 c λM=>Ld M k λN=>Fo 0 c λO=>Ld O k λQ=>Lnl Q λS=>Cl P 110 #[N,S] k λU u=>Fo 0 c λW=>Ld W u λm=>Lnl m λv=>VLoop 3 [U,(.slice none 0 0),(I 0)] u λ_ Y y p q t=>Bv .lss q v (Ias 1 m q λZ=>Ld Z t λC=>Cl P 111 #[C] t λa0 a1=>Bp .add y a0 λa2=>Cl P 112 #[C] a1 λa3 a4=>Bs P 168 1 #[(0,a3)] a4 λa5 a6=>Ap P #[168,168] 168 #[p,a5] a6 λa7 a8=>Bp .add q (I 1) λa9=>KS [f,c,m,v]<|Y a2 a7 a9 a8) (Lnl f λD=>VLoop 2 [y,(I 0)] t λ_ b0 E g e=>Bp .lss g D λb1=>Vif b1 (Ias 1 f g λb2=>Ld b2 e λb3=>Fo 1 c λb4=>Ld b4 e λb5=>Bp .quo g (I 50) λb6=>Ias 1 b5 b6 λb7=>Ld b7 e λb8=>Ias 1 p b8 λb9=>Ld b9 e λc0=>Ias 1 c0 b3 λc1=>Ld c1 e λc2=>Bp .add E c2 λc3=>Bp .add g (I 1) λc4=>KS [c,p,f,D]<|b0 c3 c4 e) (R E e))
theorem Tz53 (h:Vz53 prog a0 a1 w R):Cl prog 53 #[a0,a1] w R:=
 tz 61 [(.tmp 4)] (s z (s z (s z (s z (s (s z (b (l [6,7,24] [0,5,22,23] (s z (s (i z z) (s (b (s z (s z z))) z)))))) (s (s z (b (l [6,40] [5,7,38,39] (s z (s (i z z) (s (b (s z z)) z)))))) (s z z))))))) [a0,a1] func53 h
def Vz54:VT1:=λP m w R=>
 VLoop 2 [m,(.slice none 0 0)] w λ_ p c e f=>Lns c λq=>Bv .gtr q (I 0) (Cl P 113 #[c] f λg k=>Ixs c (I 0) λt=>Bd P 86 #[(0,t),(1,g)] k λu=>Bs P 83 1 #[(0,u)] k λv y=>Ap P #[83,83] 83 #[e,v] y λC D=>Sst c (some g) none λE=>KS []<|p E C D) (R e f)
theorem Tz54 (h:Vz54 prog a0 w R):Cl prog 54 #[a0] w R:=
 tz 21 [(.tmp 2)] (s z (s z (s (b (l [0,3] [] (s (s z (i z z)) (b (s z (s z z)))))) (s z z)))) [a0] func54 h
def Vz55:VT1:=λP q w R=>
 New q 86 w λe m=>Fo 1 e λt=>Ld t m λk=>VLoop 2 [(.string ⟨#[]⟩),(I 0)] m λ_ p f g c=>Bv .lss g k (Bv .lss g (I 4) (Fo 0 e λu=>Ld u c λv=>Bs P 54 1 #[(0,v)] c λy C=>Cw P 54 9 y C λD E=>Bp .add f D λF=>Bp .add g (I 1) λG=>KS [e,k]<|p F G E) (Bp .add g (I 1) λJ=>KS [e,k]<|p f J c)) (Fo 1 e λL=>Ld L c λM=>Bp .geq M (I 4) λN=>Vif N (Fo 1 e λO=>Ld O c λQ=>Bp .sub Q (I 4) λS=>Ci .u8 S λU=>Bs P 54 1 #[(0,U)] c λW Y=>Cw P 54 9 W Y λZ a0=>Bp .add f Z λa1=>R a1 a0) (R f c))
theorem Tz55 (h:Vz55 prog a0 w R):Cl prog 55 #[a0] w R:=
 tz 31 [(.tmp 2)] (s z (s z (s (s z (b (l [3,7] [1,6] (s z (s (i z z) (s (b (s z (s z (i z z)))) z)))))) (s (s z (i z z)) (s z z))))) [a0] func55 h
def Vz56:VT2:=λP c e w R=>
 Ci .u32 e λf=>Bp .mul f (.int .u32 16777216) λg=>Bp .xor c g λk=>Cl P 114 #[k] w λm p=>R m p
theorem Tz56 (h:Vz56 prog a0 a1 w R):Cl prog 56 #[a0,a1] w R:=
 tz 11 [(.tmp 4)] (s z (s z z)) [a0,a1] func56 h
def Vz57:VT1:=λP c w R=>
 VJoin 1 (λ_ f e=>Vif f (R (.tuple #[(.pointer none),(I 1)]) e) (Bd P 176 #[(1,c)] e λg=>New g 176 e λk m=>R (.tuple #[k,(I 0)]) m)) (λJ4=>Bv .lss c (I 5) (KS [c]<|J4 (.bool true) w) (Bp .gtr c (I 900000) λp=>KS [c]<|J4 p w))
theorem Tz57 (h:Vz57 prog a0 w R):Cl prog 57 #[a0] w R:=
 tz 13 [(.tmp 2),(.tmp 3)] (s z (s (j [9] [0] z (i (s z z) z)) (s z z))) [a0] func57 h
def Vz58:VT1:=λP c w R=>
 Bn P 176 true c (.pointer none) λe=>Vif e (Nc c<|Fo 6 c λf=>Ld f w λg=>R g w) (R (.bool false) w)
theorem Tz58 (h:Vz58 prog a0 w R):Cl prog 58 #[a0] w R:=
 tz 11 [(.tmp 2)] (s z (s z z)) [a0] func58 h
def Vz59:VT2:=λP c e w R=>
 VJoin 1 (λ_ m f=>Vif m (R (I 7) f) (Nc c<|Fo 7 c λp=>Ld p f λq=>Bv .neq q (I 0) (Nc c<|Fo 7 c λt=>Ld t f λu=>R u f) (Cl P 115 #[c,e] f λg k=>Bv .neq g (I 3) (Nc c<|Fo 7 c λv=>St v g k λy=>R g y) (R g k)))) (λJ10=>Bn P 176 false c (.pointer none) λC=>Vif C (KS [c,e]<|J10 (.bool true) w) (Bn P 90 false e (.pointer none) λD=>Vif D (KS [c,e]<|J10 (.bool true) w) (Nc c<|Fo 6 c λE=>Ld E w λF=>KS [c,e]<|J10 F w)))
theorem Tz59 (h:Vz59 prog a0 a1 w R):Cl prog 59 #[a0,a1] w R:=
 tz 39 [(.tmp 4)] (s z (s (b (j [6] [0,1] z (i (s z z) (s z (i (s z z) z))))) (s z (s (s z (i z z)) (s z z))))) [a0,a1] func59 h
def Vz60:VT2:=λP c e w R=>
 Bn P 90 false c (.pointer none) λg=>Vif g (R (I 7) w) (VJoin 1 (λ_ k f=>Vif k (R (I 1) f) (Nc c<|Fo 2 c λm=>St m e f λp=>R (I 0) p)) (λJ4=>Nc c<|Fo 1 c λq=>Ld q w λt=>Bp .mul (I 8) t λu=>Bp .lss e u λv=>Vif v (KS [c,e]<|J4 (.bool true) w) (Cl P 116 #[c] w λy C=>Bp .gtr e y λD=>KS [c,e]<|J4 D C)))
theorem Tz60 (h:Vz60 prog a0 a1 w R):Cl prog 60 #[a0,a1] w R:=
 tz 26 [(.tmp 4)] (s z (s (b (s z (i (s z z) (j [8] [0,1] z (i (s z z) z))))) (s z (s z z)))) [a0,a1] func60 h
def Vz61:VT1:=λP c w R=>
 New (zeroP P 34) 34 w λf p=>Cl P 58 #[c] p λq g=>Up .not q λt=>Vif t (Bd P 34 #[] g λu=>StA 3 f u g λk=>LdA 3 f k λv=>R v k) (Dr g λe=>Nc c<|Fo 5 c λy=>Ld y e λC=>Cv P 54 9 C e λD=>Nc c<|Fo 4 c λE=>Ld E e λF=>Nc c<|Fo 3 c λG=>Ld G e λJ=>Bd P 34 #[(0,D),(1,F),(2,J)] e λL=>StA 3 f L e λm=>LdA 3 f m λM=>R M m)
theorem Tz61 (h:Vz61 prog a0 w R):Cl prog 61 #[a0] w R:=
 tz 21 [(.cell 2 34)] (s z (s (s z (i (s z z) z)) (s (r (.staged [0,1,3,7,15,0,32,96,224,0,512,1536,3584,8191,16383])) z))) [a0] func61 h
def Vz62:VT2:=λP c m w R=>
 Cl P 117 #[c,m] w λe f=>Ex e 0 λg=>Ex e 1 λk=>Bv .neq k (I 0) (R (.tuple #[(.string ⟨#[]⟩),k]) f) (Lns c λp=>Bp .mul (I 3) p λq=>Cl P 118 #[g,q] f λy t=>Cl P 119 #[g] t λu v=>R (.tuple #[u,(I 0)]) v)
theorem Tz62 (h:Vz62 prog a0 a1 w R):Cl prog 62 #[a0,a1] w R:=
 tz 24 [(.tmp 4),(.tmp 5)] (s z (s z (s (s z (i (s z z) z)) (s z (s z z))))) [a0,a1] func62 h
def Vz63:VT1:=λP k w R=>
 New (zeroP P 54) 54 w λe f=>Mf P (.func 121) #[] #[e] f λm=>Cl P 120 #[k,m] f λg c=>Bv .neq g (I 0) (R (.tuple #[(.string ⟨#[]⟩),g]) c) (Ld e c λp=>Cw P 54 9 p c λq t=>R (.tuple #[q,(I 0)]) t)
theorem Tz63 (h:Vz63 prog a0 w R):Cl prog 63 #[a0] w R:=
 tz 14 [(.tmp 2),(.tmp 3)] (s z (s z (s z (s (s z (i (s z z) z)) (s z z))))) [a0] func63 h
def Vz64:VT1:=λP e w R=>
 Cl P 122 #[] w λc f=>Cl P 123 #[c,e] f λp g=>Cl P 124 #[c] g λk m=>R k m
theorem Tz64 (h:Vz64 prog a0 w R):Cl prog 64 #[a0] w R:=
 tz 10 [(.tmp 2)] (s z (s z (s z (s z z)))) [a0] func64 h
def Vz65:VT2:=λP m f w R=>
 New (zeroP P 48) 48 w λg q=>Bd P 48 #[] q λE=>New (zeroP P 48) 48 q λc F=>StA 2 c E F λG=>Lnl f λp=>VLoop 1 [(I 0)] G λ_ t e k=>Bv .lss e p (Ias 1 f e λJ=>Ld J k λu=>Cl P 125 #[m,u] k λv L=>Dr L λy=>Fo 0 c λM=>Ld M y λN=>Lns v λO=>Bp .sub O (I 1) λQ=>Sst v (some Q) none λS=>Bp .add N S λU=>Fo 0 c λW=>St W U y λC=>Bp .eql u (I 0) λY=>Vif Y (Fo 1 c λZ=>St Z e C λa0=>Bp .add e (I 1) λa1=>KS [m,g,c,f,p]<|t a1 a0) (Bp .add e (I 1) λa2=>KS [m,g,c,f,p]<|t a2 C)) (LdA 2 c k λa3=>StA 2 g a3 k λD=>LdA 2 g D λa4=>R a4 D)
theorem Tz65 (h:Vz65 prog a0 a1 w R):Cl prog 65 #[a0,a1] w R:=
 tz 35 [(.cell 4 48)] (s z (s z (s (s z (b (l [12] [0,4,5,10,11] (s z (s (i z z) (s (b (s z (s z (s (r (.staged [0,1,0,0,8,24,60,127,255,511])) (s z (i z z)))))) z)))))) (s z z)))) [a0,a1] func65 h
def Vz66:VT1:=λP e w R=>
 Lns e λf=>VLoop 2 [(.slice none 0 0),(I 0)] w λ_ C g c v=>Bv .lss c f (Lnl g λm=>VLoop 3 [(.slice none 0 0),(.bool false),(I 0)] v λ_ D p t k u=>Bv .lss k m (Ias 1 g k λE=>Ld E u λq=>VJoin 2 (λ_ F G J=>Bs P 69 1 #[(0,q)] J λL M=>Ap P #[69,69] 69 #[F,L] M λN O=>Bp .add k (I 1) λQ=>KS [e,c,f,c,g,m]<|D N G Q O) (λJ19=>VJoin 1 (λ_ S y=>Vif S (Bs P 69 1 #[(0,c)] y λU W=>Ap P #[69,69] 69 #[p,U] W λY Z=>KS [e,c,q,f,c,g,m,k]<|J19 Y (.bool true) Z) (KS [e,c,q,f,c,g,m,k]<|J19 p t y)) (λJ23=>Up .not t λa0=>Vif a0 (Cl P 126 #[e,c,q] u λa1 a2=>KS [e,c,p,t,q,f,c,g,m,k]<|J23 a1 a2) (KS [e,c,p,t,q,f,c,g,m,k]<|J23 (.bool false) u)))) (VJoin 1 (λ_ a3 a4=>Bp .add c (I 1) λa5=>KS [e,f]<|C a3 a5 a4) (λJ28=>Up .not t λa6=>Vif a6 (Bs P 69 1 #[(0,c)] u λa7 a8=>Ap P #[69,69] 69 #[p,a7] a8 λa9 b0=>KS [e,f,c]<|J28 a9 b0) (KS [e,f,c]<|J28 p u)))) (R g v)
theorem Tz66 (h:Vz66 prog a0 w R):Cl prog 66 #[a0] w R:=
 tz 46 [(.tmp 2)] (s z (s z (s (s z (b (l [3,11] [0,10] (s z (s (i z z) (s (b (s z (s z (s z (s (s z (b (l [5,6,16] [0,4,10,11,14,15] (s z (s (i z z) (s (b (s z (j [5,6] [0,4,8,10,11,14,15,16] (j [27] [0,4,5,6,8,10,11,14,15,16] z (i (s z z) z)) z))) z)))))) (j [5] [0,10,11] (s z (i z z)) z)))))) z)))))) (s z z)))) [a0] func66 h
def Vz67:VT1:=λP e w R=>
 Cl P 31 #[(I 100000),e] w λc f=>Ex c 0 λg=>Ex c 1 λk=>R (.tuple #[g,k]) f
theorem Tz67 (h:Vz67 prog a0 w R):Cl prog 67 #[a0] w R:=
 tz 8 [(.tmp 2),(.tmp 3)] (s z (s z z)) [a0] func67 h
def Vz68:VT1:=λP c w R=>
 Bp .add c (I 1) λe=>Sst (.string ⟨#[48,49,50,51,52,53,54,55,56,57]⟩) (some c) (some e) λf=>Bp .add (.string ⟨#[66,90,104]⟩) f λg=>Cl P 29 #[g] w λk m=>R k m
theorem Tz68 (h:Vz68 prog a0 w R):Cl prog 68 #[a0] w R:=
 tz 9 [(.tmp 2)] (s z (s z z)) [a0] func68 h
def Vz69:VT2:=λP L m w R=>
 Bd P 106 #[] w λM=>New (zeroP P 106) 106 w λc N=>StA 2 c M N λO=>Cl P 54 #[L] O λf Q=>Lnl f λp=>VLoop 2 [(.slice none 0 0),(I 0)] Q λ_ S q g k=>Bv .lss g p (Ias 2 f g λU=>LdA 2 U k λW=>New (zeroP P 86) 86 k λe Y=>StA 2 e W Y λy=>LdA 2 e y λZ=>Cl P 55 #[Z] y λt u=>VJoin 1 (λ_ C D=>Fo 0 c λa0=>Ld a0 D λa1=>Bp .add a1 t λa2=>Fo 0 c λa3=>St a3 a2 D λE=>Fo 1 e λa4=>Ld a4 E λF=>VLoop 1 [(I 0)] E λ_ a5 G v=>Bp .lss G F λa6=>Vif a6 (Fo 1 c λa7=>Ld a7 v λa8=>Fo 0 e λa9=>Ld a9 v λb0=>Bs P 54 1 #[(0,b0)] v λb1 b2=>Cw P 54 9 b1 b2 λb3 b4=>Bp .add a8 b3 λb5=>Fo 1 c λb6=>St b6 b5 b4 λb7=>Bp .add G (I 1) λb8=>KS [m,C,c,e,f,p,g,F]<|a5 b8 b7) (Bp .add g (I 1) λb9=>KS [m,c,f,p]<|S C b9 v)) (λJ34=>Fo 0 c λc0=>Ld c0 u λc1=>Lns c1 λc2=>Lns t λc3=>Bp .add c2 c3 λc4=>Bp .gtr c4 m λc5=>Vif c5 (LdA 2 c u λc6=>Bs P 103 1 #[(0,c6)] u λc7 c8=>Ap P #[103,103] 103 #[q,c7] c8 λc9 J=>Bd P 106 #[] J λd0=>StA 2 c d0 J λd1=>KS [m,c,e,t,f,p,g]<|J34 c9 d1) (KS [m,c,e,t,f,p,g]<|J34 q u))) (Fo 0 c λd2=>Ld d2 k λd3=>Lns d3 λd4=>Bv .gtr d4 (I 0) (LdA 2 c k λd5=>Bs P 103 1 #[(0,d5)] k λd6 d7=>Ap P #[103,103] 103 #[q,d6] d7 λd8 d9=>R d8 d9) (R q k))
theorem Tz69 (h:Vz69 prog a0 a1 w R):Cl prog 69 #[a0,a1] w R:=
 tz 61 [(.tmp 4)] (s z (s z (s z (s (s z (b (l [5,14] [1,6,12,13] (s z (s (i z z) (s (b (s z (s z (j [5] [1,6,8,9,12,13,14] (s z (i (s z z) z)) (s z (s z (b (l [40] [1,5,6,8,12,13,14,39] (s z (s (i z z) (s (b z) z))))))))))) z)))))) (s (s z (i z z)) (s z z)))))) [a0,a1] func69 h
def Vz70:VT1:=λP e w R=>
 New e 106 w λf c=>Fo 1 f λg=>Ld g c λk=>Cl P 20 #[k] c λm p=>R m p
theorem Tz70 (h:Vz70 prog a0 w R):Cl prog 70 #[a0] w R:=
 tz 6 [(.tmp 2)] (s z (s z z)) [a0] func70 h
def Vz71:VT1:=λP c w R=>
 Cl P 127 #[c] w λe f=>Cl P 51 #[e,(I 32)] f λg k=>Bp .add (.string ⟨#[48,48,48,49,48,49,49,49,48,49,49,49,48,48,49,48,48,49,48,48,48,49,48,49,48,48,49,49,49,48,48,48,48,49,48,49,48,48,48,48,49,48,48,49,48,48,48,48]⟩) g λm=>R m k
theorem Tz71 (h:Vz71 prog a0 w R):Cl prog 71 #[a0] w R:=
 tz 7 [(.tmp 2)] (s z (s z z)) [a0] func71 h
def Vz72:VT1:=λP e w R=>
 Cl P 82 #[(I 1),e] w λf c=>Ex f 0 λq=>Ex f 1 λg=>Bv .neq g (I 0) (R (.tuple #[(.pointer none),g]) c) (Bd P 189 #[(0,e)] c λk=>New k 189 c λm p=>R (.tuple #[m,(I 0)]) p)
theorem Tz72 (h:Vz72 prog a0 w R):Cl prog 72 #[a0] w R:=
 tz 17 [(.tmp 2),(.tmp 3)] (s z (s (s z (s z (i (s z z) z))) (s z z))) [a0] func72 h
def Vz73:VT1:=λP c w R=>
 Bn P 189 true c (.pointer none) λe=>Vif e (Nc c<|Fo 9 c λf=>Ld f w λg=>Vif g (Nc c<|Fo 1 c λk=>Ld k w λm=>Bv .eql m (I 0) (Nc c<|Fo 2 c λp=>Ld p w λq=>Bv .eql q (I 0) (Nc c<|Fo 10 c λt=>Ld t w λu=>Bp .eql u (I 0) λv=>R v w) (R (.bool false) w)) (R (.bool false) w)) (R (.bool false) w)) (R (.bool false) w)
theorem Tz73 (h:Vz73 prog a0 w R):Cl prog 73 #[a0] w R:=
 tz 32 [(.tmp 2)] (s z (s z z)) [a0] func73 h
def Vz74:VT1:=λP c w R=>
 Bn P 90 false c (.pointer none) λm=>Vif m (R (I 0) w) (Dr w λe=>Cl P 116 #[c] e λp f=>Nc c<|Fo 2 c λg=>Ld g f λk=>Rk (λw K=>Ld g w λq=>K q) k e<|Bp .sub p k λt=>R t f)
theorem Tz74 (h:Vz74 prog a0 w R):Cl prog 74 #[a0] w R:=
 tz 12 [(.tmp 2)] (s z (s (s z (i (s z z) z)) (s (r (.staged [0,1,0,4,12,28,63,127])) z))) [a0] func74 h
def Vz75:VT1:=λP c w R=>
 Dr w λe=>Nc c<|Fo 1 c λp=>Ld p e λq=>Usd P #[54] 190 #[q] e λt g=>Nc c<|Fo 1 c λk=>Ld k g λf=>Rk (λw K=>Ld k w λu=>K u) f e<|Lnl f λm=>Rk (λw K=>Lnl f λv=>K v) m e<|Ust P #[190,3] 9 #[t,m] g λy C=>R y C
theorem Tz75 (h:Vz75 prog a0 w R):Cl prog 75 #[a0] w R:=
 tz 14 [(.tmp 2)] (s z (s (r (.staged [0,1,3,7,15,0,32,96,224,480,1023,2047])) z)) [a0] func75 h
def Vz76:VT2:=λP c e w R=>
 VJoin 1 (λ_ t f=>Vif t (R (.tuple #[(I 0),(I 7)]) f) (Nc c<|Fo 10 c λu=>Ld u f λv=>Bv .neq v (I 0) (Dr f λk=>Nc c<|Fo 10 c λy=>Ld y k λC=>R (.tuple #[(I 0),C]) k) (Cl P 128 #[c,e] f λm p=>Ex m 0 λq=>Ex m 1 λg=>Bv .neq g (I 3) (Nc c<|Fo 10 c λD=>St D g p λE=>R (.tuple #[q,g]) E) (R (.tuple #[q,g]) p)))) (λJ13=>Bn P 189 false c (.pointer none) λF=>Vif F (KS [c,e]<|J13 (.bool true) w) (Bn P 90 false e (.pointer none) λG=>KS [c,e]<|J13 G w))
theorem Tz76 (h:Vz76 prog a0 a1 w R):Cl prog 76 #[a0,a1] w R:=
 tz 39 [(.tmp 4),(.tmp 5)] (s z (s (b (j [8] [0,1] z (i (s z z) (s z (i (s (r (.staged [0,1,3,7,0,31])) z) z))))) (s z (s (s z (i z z)) (s z z))))) [a0,a1] func76 h
def Vz77:VT1:=λP f w R=>
 New (zeroP P 34) 34 w λc e=>Bn P 189 false f (.pointer none) λm=>Vif m (Bd P 34 #[] e λp=>StA 3 c p e λg=>LdA 3 c g λq=>R q g) (Nc f<|Fo 5 f λt=>LdA 3 t e λu=>StA 3 c u e λk=>LdA 3 c k λv=>R v k)
theorem Tz77 (h:Vz77 prog a0 w R):Cl prog 77 #[a0] w R:=
 tz 10 [(.cell 2 34)] (s z (s (s z (i (s z z) z)) (s z z))) [a0] func77 h
def Vz78:VT2:=λP c e w R=>
 Cl P 129 #[c] w λv f=>Nc c<|Fo 1 c λg=>Ld g f λk=>Ap P #[54,9] 54 #[k,e] f λm p=>Nc c<|Fo 1 c λq=>St q m p λt=>Lns e λu=>R (.tuple #[u,.nilIface]) t
theorem Tz78 (h:Vz78 prog a0 a1 w R):Cl prog 78 #[a0,a1] w R:=
 tz 19 [(.tmp 4),(.tmp 5)] (s z (s z (s z (s z z)))) [a0,a1] func78 h
def Vz79:VT1:=λP c w R=>
 VLoop 2 [(.int .u32 0),(I 0)] w λ_ k f e g=>Lns c λm=>Bv .lss e m (Bp .mul (.int .u32 2) f λp=>Ixs c e λq=>Bp .sub q (.int .u8 48) λt=>Ci .u32 t λu=>Bp .add p u λv=>Bp .add e (I 1) λy=>KS [c]<|k v y g) (R f g)
theorem Tz79 (h:Vz79 prog a0 w R):Cl prog 79 #[a0] w R:=
 tz 20 [(.tmp 2)] (s z (s z (s (s z (b (l [3,4] [0] (s (s z (i z z)) (s (b z) z))))) (s z z)))) [a0] func79 h
def Vz80:VT4:=λP c e f g w R=>
 VJoin 1 (λ_ t k=>Vif t (R (I 7) k) (VJoin 1 (λ_ u m=>Vif u (R (I 1) m) (Cl P 81 #[c,(.int .u64 54156738319193)] m λW p=>Nc c<|Fo 1 c λv=>Ld v p λy=>Cl P 130 #[y,g] p λC D=>Nc c<|Fo 1 c λE=>St E C D λq=>Nc c<|Fo 0 c λF=>Ld F q λG=>Cl P 16 #[G,e,f,g] q λJ L=>R J L)) (λJ11=>Lns e λM=>Bv .gtr M (I 900000) (KS [c,e,f,g]<|J11 (.bool true) k) (Bv .lss f (I 0) (KS [c,e,f,g]<|J11 (.bool true) k) (Lns e λN=>Bp .geq f N λO=>KS [c,e,f,g]<|J11 O k))))) (λJ17=>Bn P 123 false c (.pointer none) λQ=>Vif Q (KS [c,e,f,g]<|J17 (.bool true) w) (Nc c<|Fo 2 c λS=>Ld S w λU=>KS [c,e,f,g]<|J17 U w))
theorem Tz80 (h:Vz80 prog a0 a1 a2 a3 w R):Cl prog 80 #[a0,a1,a2,a3] w R:=
 tz 51 [(.tmp 8)] (s z (s (b (j [9] [0,1,2,3] z (i (s z z) (j [18] [0,1,2,3] z (i (s z z) z))))) (s z (s z (s z z))))) [a0,a1,a2,a3] func80 h
def Vz81:VT2:=λP c e w R=>
 Nc c<|Fo 0 c λg=>Ld g w λk=>Bp .shr e (.int .u64 24) λm=>Ci .u32 m λp=>Cl P 45 #[k,p,(I 24)] w λC f=>Nc c<|Fo 0 c λq=>Ld q f λt=>Bp .and e (.int .u64 16777215) λu=>Ci .u32 u λv=>Cl P 45 #[t,v,(I 24)] f λD y=>R (.tuple #[]) y
theorem Tz81 (h:Vz81 prog a0 a1 w R):Cl prog 81 #[a0,a1] w R:=
 tz 20 [] (s z z) [a0,a1] func81 h
def Vz82:VT2:=λP c e w R=>
 VJoin 1 (λ_ g f=>Vif g (R (.tuple #[(I 0),(I 1)]) f) (Bp .mul c e λk=>Bp .sub k (I 19) λm=>R (.tuple #[m,(I 0)]) f)) (λJ4=>Bp .lss c (I 1) λp=>Vif p (KS [c,e]<|J4 (.bool true) w) (Bv .gtr c (I 9) (KS [c,e]<|J4 (.bool true) w) (Bv .lss e (I 24) (KS [c,e]<|J4 (.bool true) w) (Bp .gtr e (I 100000) λq=>KS [c,e]<|J4 q w))))
theorem Tz82 (h:Vz82 prog a0 a1 w R):Cl prog 82 #[a0,a1] w R:=
 tz 24 [(.tmp 4),(.tmp 5)] (s z (s (j [19] [0,1] z (i (s z z) z)) (s z z))) [a0,a1] func82 h
def Vz83:VT2:=λP c D w R=>
 Cl P 131 #[D] w λp q=>Ex p 0 λe=>Ex p 1 λt=>Bv .neq t (I 0) (R (.tuple #[(.slice none 0 0),t]) q) (Lns c λg=>VLoop 2 [(.slice none 0 0),(I 0)] q λ_ u k f v=>Bv .lss f g (Ixs c f λE=>Cl P 132 #[e,E] v λy F=>Ex y 0 λG=>Ex y 1 λJ=>New (zeroP P 132) 132 F λC L=>StA 3 C G L λm=>Vif J (LdA 3 C m λM=>Bs P 128 1 #[(0,M)] m λN O=>Ap P #[128,128] 128 #[k,N] O λQ S=>Bp .add f (I 1) λU=>KS [c,e,g]<|u Q U S) (Bp .add f (I 1) λW=>KS [c,e,g]<|u k W m)) (Cl P 133 #[e] v λY Z=>Ap P #[128,128] 128 #[k,Y] Z λa0 a1=>R (.tuple #[a0,(I 0)]) a1))
theorem Tz83 (h:Vz83 prog a0 a1 w R):Cl prog 83 #[a0,a1] w R:=
 tz 43 [(.tmp 4),(.tmp 5)] (s z (s z (s (s z (i (s z z) z)) (s z (s (s z (b (l [8,22] [0,6,21] (s z (s (i z z) (s (b (s z (s z (s z (i z z))))) z)))))) (s z z)))))) [a0,a1] func83 h
def Vz84:VT1:=λP c w R=>
 Bv .eql c (.string ⟨#[]⟩) (R (.tuple #[(.pointer none),(I 1)]) w) (Cl P 134 #[c] w λf e=>Ex f 0 λk=>Ex f 1 λg=>Bv .neq g (I 0) (R (.tuple #[(.pointer none),g]) e) (Bd P 203 #[(0,c),(1,k)] e λm=>New m 203 e λp q=>R (.tuple #[p,(I 0)]) q))
theorem Tz84 (h:Vz84 prog a0 w R):Cl prog 84 #[a0] w R:=
 tz 20 [(.tmp 2),(.tmp 3)] (s z (s (s z (i (s z z) z)) (s z (s (s z (i (s z z) z)) (s z z))))) [a0] func84 h
def Vz85:VT1:=λP c w R=>
 Dr w λe=>Bn P 203 true c (.pointer none) λf=>Vif f (Nc c<|Fo 3 c λg=>Ld g e λk=>Lnl k λm=>Nc c<|Fo 0 c λp=>Ld p e λq=>Lns q λt=>Bp .eql m t λu=>R u e) (R (.bool false) e)
theorem Tz85 (h:Vz85 prog a0 w R):Cl prog 85 #[a0] w R:=
 tz 18 [(.tmp 2)] (s z (s (r (.staged [0,1,3,7,15,31,63,127,7,263,775,1799,3847,8191,16383,32767])) z)) [a0] func85 h
def Vz86:VT2:=λP c e w R=>
 VJoin 1 (λ_ v m=>Vif v (R (I 0) m) (Nc c<|Fo 1 c λy=>Ld y m λC=>Cl P 135 #[C,e] m λg k=>VJoin 0 (λ_ D=>VLoop 1 [g] D λ_ E f t=>VJoin 1 (λ_ F u=>Vif F (Cl P 138 #[c] u λb3 G=>Bp .add f (I 1) λJ=>KS [c,e]<|E J G) (R f u)) (λJ10=>Nc c<|Fo 1 c λL=>Ld L t λM=>Cl P 136 #[M] t λN p=>Vif N (Bp .lss f e λO=>Vif O (Cl P 85 #[c] p λQ S=>Up .not Q λU=>KS [c,e,f]<|J10 U S) (KS [c,e,f]<|J10 (.bool false) p)) (KS [c,e,f]<|J10 (.bool false) p))) (λJ17=>VJoin 1 (λ_ W q=>Vif W (Nc c<|Fo 1 c λY=>Ld Y q λZ=>Cl P 137 #[Z] q λa0 a1=>Nc c<|Fo 2 c λa2=>St a2 a0 a1 λa3=>KS [c,e,g]<|J17 a3) (KS [c,e,g]<|J17 q)) (λJ23=>Nc c<|Fo 2 c λa4=>Ld a4 k λa5=>Be P .eql 69 (.tmp 21) (.const (.slice none 0 0)) a5 (.slice none 0 0) k λa6=>Vif a6 (Nc c<|Fo 1 c λa7=>Ld a7 k λa8=>Cl P 136 #[a8] k λa9 b0=>KS [c,e,g]<|J23 a9 b0) (KS [c,e,g]<|J23 (.bool false) k))))) (λJ30=>Bn P 203 false c (.pointer none) λb1=>Vif b1 (KS [c,e]<|J30 (.bool true) w) (Bp .lss e (I 1) λb2=>KS [c,e]<|J30 b2 w))
theorem Tz86 (h:Vz86 prog a0 a1 w R):Cl prog 86 #[a0,a1] w R:=
 tz 58 [(.tmp 4)] (s z (s (j [11] [0,1] z (i (s z z) z)) (s z (j [] [0,1,5] (j [29] [0,1,5] z (i z z)) (s (b (l [5] [0,1] (s (j [52] [0,1,5] z (i z z)) (b (s z z))))) (s z z)))))) [a0,a1] func86 h
def Vz87:VT1:=λP c w R=>
 Cl P 85 #[c] w λg f=>Up .not g λk=>Vif k (R (.tuple #[(.string ⟨#[]⟩),(I 0)]) f) (Dr f λe=>Nc c<|Fo 3 c λm=>Ld m e λp=>Cv P 54 9 p e λq=>Nc c<|Fo 4 c λt=>Ld t e λu=>R (.tuple #[q,u]) e)
theorem Tz87 (h:Vz87 prog a0 w R):Cl prog 87 #[a0] w R:=
 tz 16 [(.tmp 2),(.tmp 3)] (s z (s (s z (i (s z z) z)) (s (r (.staged [0,1,3,7,15,0,32,96,224,31,1023])) z))) [a0] func87 h
def Vz88:VT1:=λP p w R=>
 New p 139 w λq k=>LdA 256 q k λe=>VLoop 2 [(.slice none 0 0),(I 0)] k λ_ m f c g=>Bv .lss c (I 256) (Ixa 256 1 false e c λt=>Vif t (Ci .u8 c λu=>Bs P 54 1 #[(0,u)] g λv y=>Ap P #[54,54] 54 #[f,v] y λC D=>Bp .add c (I 1) λE=>KS [e]<|m C E D) (Bp .add c (I 1) λF=>KS [e]<|m f F g)) (Cw P 54 9 f g λG J=>R G J)
theorem Tz88 (h:Vz88 prog a0 w R):Cl prog 88 #[a0] w R:=
 tz 20 [(.tmp 2)] (s z (s z (s (s z (b (l [3,7] [6] (s z (s (i z z) (s (b (s z (s z (i z z)))) z)))))) (s z z)))) [a0] func88 h
def Vz89:VT1:=λP c w R=>
 Cl P 98 #[c] w λg e=>Up .not g λk=>Vif k (R (.tuple #[(.pointer none),(I 1)]) e) (Cw P 9 54 c e λm f=>Bd P 206 #[(0,m)] f λp=>New p 206 f λq t=>R (.tuple #[q,(I 0)]) t)
theorem Tz89 (h:Vz89 prog a0 w R):Cl prog 89 #[a0] w R:=
 tz 11 [(.tmp 2),(.tmp 3)] (s z (s (s z (i (s z z) z)) (s z z))) [a0] func89 h
def Vz90:VT2:=λP c g w R=>
 Bn P 206 false c (.pointer none) λk=>Vif k (R (.tuple #[(I 0),(I 7)]) w) (Nc c<|Fo 0 c λm=>Ld m w λp=>Cl P 139 #[p,g] w λe f=>Bv .lss e (I 0) (R (.tuple #[(I 0),(I 6)]) f) (Cl P 140 #[c,e] f λt q=>R (.tuple #[e,(I 0)]) q))
theorem Tz90 (h:Vz90 prog a0 a1 w R):Cl prog 90 #[a0,a1] w R:=
 tz 21 [(.tmp 4),(.tmp 5)] (s z (s (s z (i (s z z) z)) (s z (s (s z (i (s z z) z)) (s z (s z z)))))) [a0,a1] func90 h
def Vz91:VT1:=λP c w R=>
 Bv .geq c (I 1) (Bp .leq c (I 256) λe=>R e w) (R (.bool false) w)
theorem Tz91 (h:Vz91 prog a0 w R):Cl prog 91 #[a0] w R:=
 tz 9 [(.tmp 2)] (s z (s z z)) [a0] func91 h
def Vz92:VT1:=λP k w R=>
 VLoop 2 [k,(.slice none 0 0)] w λ_ m c e f=>Bv .gtr c (I 0) (VJoin 1 (λ_ g p=>Bs P 69 1 #[(0,g)] p λq t=>Ap P #[69,69] 69 #[e,q] t λu v=>Bp .sub c g λy=>Bp .sub y (I 1) λC=>Bp .quo C (I 2) λD=>KS []<|m D u v) (λJ11=>Bp .rem c (I 2) λE=>Bp .eql E (I 1) λF=>Vif F (KS [c,e]<|J11 (I 0) f) (KS [c,e]<|J11 (I 1) f))) (R e f)
theorem Tz92 (h:Vz92 prog a0 w R):Cl prog 92 #[a0] w R:=
 tz 20 [(.tmp 2)] (s z (s z (s (b (l [0,3] [] (s (s z (i z z)) (b (s z (j [4] [0,3] (s z (i z z)) (s z z))))))) (s z z)))) [a0] func92 h
def Vz93:VT2:=λP c f w R=>
 New (zeroP P 148) 148 w λe k=>VJoin 1 (λ_ t g=>Vif t (Bd P 148 #[] g λu=>StA 2 e u g λm=>LdA 2 e m λv=>R (.tuple #[v,(I 1)]) m) (Cl P 142 #[c,f] g λp y=>Ex p 0 λC=>Ex p 1 λD=>StA 2 e C y λq=>LdA 2 e q λE=>R (.tuple #[E,D]) q)) (λJ9=>Lnl c λF=>Bv .eql F (I 0) (KS [c,f,e]<|J9 (.bool true) k) (Bp .sub f (I 1) λG=>Cl P 141 #[c,G] k λJ L=>Lnl c λM=>Bp .sub M (I 1) λN=>Bp .neq J N λO=>KS [c,f,e]<|J9 O L))
theorem Tz93 (h:Vz93 prog a0 a1 w R):Cl prog 93 #[a0,a1] w R:=
 tz 25 [(.cell 4 148),(.tmp 5)] (s z (s (j [18] [0,1,4] z (i (s z z) z)) (s z z))) [a0,a1] func93 h
def Vz94:VT2:=λP g q w R=>
 Cl P 143 #[g,q] w λt k=>Up .not t λu=>Vif u (R (.tuple #[(I 0),(I 1)]) k) (Cl P 144 #[g] k λc v=>Lnl c λm=>VLoop 2 [(I 18),(I 0)] v λ_ y p e f=>Bv .lss e m (Ias 1 c e λC=>Ld C f λD=>Bp .add D (I 1) λE=>Bp .add p E λF=>Bp .add e (I 1) λG=>KS [c,m]<|y F G f) (R (.tuple #[p,(I 0)]) f))
theorem Tz94 (h:Vz94 prog a0 a1 w R):Cl prog 94 #[a0,a1] w R:=
 tz 26 [(.tmp 4),(.tmp 5)] (s z (s (s z (i (s z z) z)) (s z (s (s z (b (l [6,16] [14,15] (s z (s (i z z) (s (b (s z z)) z)))))) (s z z))))) [a0,a1] func94 h
def Vz95:VT1:=λP e w R=>
 Cl P 145 #[e] w λm f=>Up .not m λp=>Vif p (R (.tuple #[(I 0),(I 1)]) f) (New (zeroP P 3) 3 f λc q=>St c (I 0) q λg=>Mf P (.func 147) #[] #[c] g λt=>Cl P 146 #[e,t] g λv k=>Ld c k λu=>R (.tuple #[u,(I 0)]) k)
theorem Tz95 (h:Vz95 prog a0 w R):Cl prog 95 #[a0] w R:=
 tz 12 [(.tmp 2),(.tmp 3)] (s z (s (s z (i (s z z) z)) (s z (s z (s z z))))) [a0] func95 h
def Vz96:VT2:=λP f M w R=>
 New M 148 w λe N=>Dr N λC=>Fo 1 e λD=>Ld D C λu=>Lnl u λE=>Lnl f λO=>Cl P 148 #[O] C λQ g=>Rk (λw K=>Lnl u λS=>K S) E g<|Rk (λw K=>Ld D w λU=>K U) u g<|Bv .neq E Q (R (.tuple #[(I 0),(I 1)]) g) (Fo 1 e λW=>Ld W g λk=>Lnl k λq=>VLoop 2 [(I 0),(I 0)] g λ_ Y t c m=>Bv .lss c q (Ias 1 k c λZ=>Ld Z m λp=>VJoin 1 (λ_ a0 F=>Vif a0 (R (.tuple #[(I 0),(I 1)]) F) (Cl P 149 #[f,c] F λG v=>Ex G 0 λa1=>Ex G 1 λb5=>Fo 0 e λa2=>Ld a2 v λa3=>Ias 1 a3 p λa4=>Ld a4 v λa5=>Cl P 150 #[a1,a5] v λJ y=>Ex J 0 λa6=>Ex J 1 λL=>Bv .neq L (I 0) (R (.tuple #[(I 0),L]) y) (Bp .add t a6 λa7=>Bmin P #[3,3] 3 #[a7,(I 1099511627776)] y λa8=>Bp .add c (I 1) λa9=>KS [f,e,k,q]<|Y a8 a9 y))) (λJ35=>Bp .lss p (I 0) λb0=>Vif b0 (KS [f,e,t,c,p,k,q,c]<|J35 (.bool true) m) (Fo 0 e λb1=>Ld b1 m λb2=>Lnl b2 λb3=>Bp .geq p b3 λb4=>KS [f,e,t,c,p,k,q,c]<|J35 b4 m))) (R (.tuple #[t,(I 0)]) m))
theorem Tz96 (h:Vz96 prog a0 a1 w R):Cl prog 96 #[a0,a1] w R:=
 tz 62 [(.tmp 4),(.tmp 5)] (s z (s (s (r (.staged [0,1,3,0,8,24,63])) (i (s z z) z)) (s z (s (s z (b (l [6,23] [0,3,21,22] (s z (s (i z z) (s (b (s z (s (j [36] [0,3,6,7,8,21,22,23] z (i (s z z) z)) (s z (s z (s (s z (i (s z z) z)) z)))))) z)))))) (s z z))))) [a0,a1] func96 h
def Vz97:VT2:=λP e c w R=>
 Bv .geq c (I 0) (Bv .leq c (I 32) (Ci .u64 e λf=>Bp .shr f c λg=>Bp .eql g (.int .u64 0) λk=>R k w) (R (.bool false) w)) (R (.bool false) w)
theorem Tz97 (h:Vz97 prog a0 a1 w R):Cl prog 97 #[a0,a1] w R:=
 tz 18 [(.tmp 4)] (s z (s z z)) [a0,a1] func97 h
def Vz98:VT1:=λP c w R=>
 Lns c λf=>VLoop 1 [(I 0)] w λ_ p e g=>Bv .lss e f (VJoin 1 (λ_ q k=>Vif q (R (.bool false) k) (Bp .add e (I 1) λt=>KS [c,f]<|p t k)) (λJ7=>Dr g λm=>Bp .gtr e (I 0) λu=>Vif u (Ixs c e λv=>Bp .sub e (I 1) λy=>Ixs c y λC=>Bp .leq v C λD=>KS [c,f,e]<|J7 D m) (KS [c,f,e]<|J7 (.bool false) m))) (Bp .neq c (.string ⟨#[]⟩) λE=>R E g)
theorem Tz98 (h:Vz98 prog a0 w R):Cl prog 98 #[a0] w R:=
 tz 24 [(.tmp 2)] (s z (s (s z (b (l [6] [0,5] (s z (s (i z z) (s (b (s z (j [20] [0,5,6] (r (.staged [0,1,3,7,7,31,7,7,135,455,1023,2047])) (i (s z z) z)))) z)))))) (s z z))) [a0] func98 h
def Vz99:VT1:=λP f w R=>
 New (zeroP P 155) 155 w λg u=>New (zeroP P 155) 155 u λc v=>Lns f λm=>VLoop 1 [(I 0)] v λ_ y k e=>Bv .lss k m (Ixs f k λp=>Bp .quo p (.int .u8 16) λq=>Iaa 16 1 c q λC=>Ld C e λD=>Bp .rem p (.int .u8 16) λE=>Bp .sub (.int .u8 15) E λF=>Bp .shl (.int .u32 1) F λG=>Bp .or D G λJ=>Iaa 16 1 c q λL=>St L J e λM=>Bp .add k (I 1) λN=>KS [f,g,c,m]<|y N M) (LdA 16 c e λO=>StA 16 g O e λt=>LdA 16 g t λQ=>R Q t)
theorem Tz99 (h:Vz99 prog a0 w R):Cl prog 99 #[a0] w R:=
 tz 26 [(.cell 2 155)] (s z (s z (s (s z (b (l [8] [0,2,3,7] (s z (s (i z z) (s (b (s z (s z z))) z)))))) (s z z)))) [a0] func99 h
def Vz100:VT3:=λP c e m w R=>
 Bn P 65 false c (.pointer none) λu=>Vif u (R (I 7) w) (Cl P 143 #[e,m] w λv p=>Up .not v λy=>Vif y (R (I 1) p) (Ci .u32 m λC=>Cl P 45 #[c,C,(I 3)] p λY D=>Lnl e λE=>Ci .u32 E λF=>Cl P 45 #[c,F,(I 15)] D λZ G=>Cl P 144 #[e] G λf J=>Lnl f λq=>VLoop 1 [(I 0)] J λ_ L g k=>Bv .lss g q (Ias 1 f g λM=>Ld M k λt=>Bp .add t (I 1) λN=>Bp .shl (.int .u32 1) N λO=>Bp .sub O (.int .u32 2) λQ=>Bp .add t (I 1) λS=>Cl P 45 #[c,Q,S] k λa0 U=>Bp .add g (I 1) λW=>KS [c,f,q]<|L W U) (R (I 0) k)))
theorem Tz100 (h:Vz100 prog a0 a1 a2 w R):Cl prog 100 #[a0,a1,a2] w R:=
 tz 42 [(.tmp 6)] (s z (s (b (s z (i (s z z) (s z (i (s z z) z))))) (s z (s z (s (s z (b (l [29] [0,27,28] (s z (s (i z z) (s (b (s z z)) z)))))) (s z z)))))) [a0,a1,a2] func100 h
def Vz101:VT2:=λP k f w R=>
 New k 24 w λg c=>Ld g c λm=>Bn P 65 false m (.pointer none) λp=>Vif p (R (I 7) c) (Cl P 145 #[f] c λq e=>Up .not q λt=>Vif t (R (I 1) e) (Mf P (.func 151) #[] #[g] e λu=>Cl P 146 #[f,u] e λy v=>R (I 0) v))
theorem Tz101 (h:Vz101 prog a0 a1 w R):Cl prog 101 #[a0,a1] w R:=
 tz 15 [(.tmp 4)] (s z (s (b (s z (i (s z z) (s z (i (s z z) z))))) (s z (s z z)))) [a0,a1] func101 h
def Vz102:VT1:=λP c w R=>
 VJoin 1 (λ_ N y=>Vif N (R (.tuple #[(.pointer none),(I 1)]) y) (Cl P 152 #[c] y λO C=>Up .not O λQ=>Vif Q (R (.tuple #[(.pointer none),(I 22)]) C) (VJoin 1 (λ_ e S=>VLoop 2 [(I 0),(I 1)] S λ_ U W f D=>Bv .leq f (I 20) (Bp .mul W (I 2) λE=>Nc e<|Fo 3 e λY=>Iaa 21 1 Y f λZ=>St Z E D λa0=>Dr a0 λF=>Nc e<|Fo 2 e λa1=>Ld a1 F λa2=>Lnl a2 λa3=>Nc e<|Fo 24 e λa4=>Iaa 22 1 a4 f λa5=>St a5 a3 F λa6=>Lnl c λp=>VLoop 2 [E,(I 0)] a6 λ_ G m g k=>Bp .lss g p λa7=>Vif a7 (Ias 1 c g λa8=>Ld a8 k λa9=>Bv .eql a9 f (Nc e<|Fo 1 e λb0=>Ld b0 k λb1=>Ci .u32 m λb2=>Ias 1 b1 g λb3=>St b3 b2 k λJ=>Nc e<|Fo 2 e λb4=>Ld b4 J λb5=>Bs P 69 1 #[(0,g)] J λb6 b7=>Ap P #[69,69] 69 #[b5,b6] b7 λb8 b9=>Nc e<|Fo 2 e λc0=>St c0 b8 b9 λc1=>Bp .add m (I 1) λc2=>Bp .add g (I 1) λc3=>KS [c,e,f,c,p]<|G c2 c3 c1) (Bp .add g (I 1) λc4=>KS [c,e,f,c,p]<|G m c4 k)) (Bp .add f (I 1) λc5=>KS [c,e]<|U m c5 k)) (Dr D λL=>Nc e<|Fo 2 e λc6=>Ld c6 L λc7=>Lnl c7 λc8=>Nc e<|Fo 24 e λc9=>Iaa 22 1 c9 (I 21) λd0=>St d0 c8 L λd1=>R (.tuple #[e,(I 0)]) d1)) (λJ47=>Dr C λq=>(Cl P 153 #[c] q λd2 d3=>Lnl c λt=>Rk (λw K=>Lnl c λd4=>K d4) t q<|Ms P 102 t t d3 λd5 M=>Bd P 219 #[(0,d2),(1,d5)] M λd6=>New d6 219 M λd7 d8=>KS [c]<|J47 d7 d8)/\(Lnl c λu=>Ms P 102 u u q λd9 e0=>Cl P 153 #[c] e0 λe1 v=>Rk (λw K=>Lnl c λe2=>K e2) u v<|Bd P 219 #[(0,e1),(1,d9)] v λe3=>New e3 219 v λe4 e5=>KS [c]<|J47 e4 e5))))) (λJ63=>Lnl c λe6=>Bp .lss e6 (I 3) λe7=>Vif e7 (KS [c]<|J63 (.bool true) w) (Lnl c λe8=>Bp .gtr e8 (I 258) λe9=>KS [c]<|J63 e9 w))
theorem Tz102 (h:Vz102 prog a0 w R):Cl prog 102 #[a0] w R:=
 tz 92 [(.tmp 2),(.tmp 3)] (s z (s (b (j [9] [0] z (i (s z z) (s z (i (s z z) z))))) (j [4] [0] (r (.two [0,1,0,4,12,31,63,127] 1 4 [0,1,2,3,4,5,6,7] [0,2,3,4,1,5,6,7])) (s z (s (s z (b (l [5,6] [0,4] (s (s z (i z z)) (s (b (s z (s z (s (r (.staged [0,0,0,4,12,28,60,1,129,511,1023])) (s z (b (l [5,53] [0,4,6,51,52] (s z (s (i z z) (s (b (s z (s z (i (s z (s z z)) z)))) z)))))))))) z))))) (s (r (.staged [0,0,2,6,14,30,1,65,255,511])) (s z z))))))) [a0] func102 h
def Vz103:VT3:=λP k e m w R=>
 Bn P 65 false e (.pointer none) λp=>Vif p (R (I 7) w) (Cl P 154 #[k,m] w λc f=>Ex c 0 λq=>Ex c 1 λt=>Ex c 2 λg=>Bv .neq g (I 0) (R g f) (Cl P 45 #[e,q,t] f λu v=>R u v))
theorem Tz103 (h:Vz103 prog a0 a1 a2 w R):Cl prog 103 #[a0,a1,a2] w R:=
 tz 26 [(.tmp 6)] (s z (s (s z (i (s z z) z)) (s z (s (s z (i (s z z) z)) (s z z))))) [a0,a1,a2] func103 h
def Vz104:VT2:=λP c g w R=>
 VLoop 1 [(I 0)] w λ_ k e f=>Lns c λm=>Bv .lss e m (Ixs c e λp=>Ci .i64 p λq=>Bv .eql q g (R (.bool true) f) (Bp .add e (I 1) λt=>KS [c,g]<|k t f)) (R (.bool false) f)
theorem Tz104 (h:Vz104 prog a0 a1 w R):Cl prog 104 #[a0,a1] w R:=
 tz 18 [(.tmp 4)] (s z (s (s z (b (l [5] [0,1] (s (s z (i z z)) (s (b (s z (i (s z z) z))) z))))) (s z z))) [a0,a1] func104 h
def Vz105:VT1:=λP c w R=>
 Lns c λe=>Bv .gtr e (I 0) (Cl P 48 #[c] w λf g=>Bp .eql f c λk=>R k g) (R (.bool false) w)
theorem Tz105 (h:Vz105 prog a0 w R):Cl prog 105 #[a0] w R:=
 tz 12 [(.tmp 2)] (s z (s z z)) [a0] func105 h
def Vz106:VT2:=λP e g w R=>
 VLoop 1 [(I 0)] w λ_ k c f=>Lns e λm=>Bv .lss c m (Ixs e c λp=>Bv .eql p g (R c f) (Bp .add c (I 1) λq=>KS [e,g]<|k q f)) (R (I (-1)) f)
theorem Tz106 (h:Vz106 prog a0 a1 w R):Cl prog 106 #[a0,a1] w R:=
 tz 18 [(.tmp 4)] (s z (s (s z (b (l [5] [0,1] (s (s z (i z z)) (s (b (s z (i (s z z) z))) z))))) (s z z))) [a0,a1] func106 h
def Vz107:VT2:=λP e c w R=>
 Dr w λf=>Bp .add c (I 1) λg=>Sst e (some c) (some g) λk=>Sst e none (some c) λm=>Bp .add k m λp=>Bp .add c (I 1) λq=>Sst e (some q) none λt=>Bp .add p t λu=>R u f
theorem Tz107 (h:Vz107 prog a0 a1 w R):Cl prog 107 #[a0,a1] w R:=
 tz 19 [(.tmp 4)] (s z (s (r (.staged [0,0,0,4,15,0,0,96,255,0,0,1024,3584,8191,16383])) z)) [a0,a1] func107 h
def Vz108:VT1:=λP c w R=>
 Bv .eql c (I 0) (R (.slice none 0 0) w) (Bp .rem c (I 2) λe=>Bp .eql e (I 1) λf=>Vif f (Bs P 69 1 #[(0,(I 0))] w λg k=>Ap P #[69,69] 69 #[(.slice none 0 0),g] k λm p=>Bp .sub c (I 1) λq=>Bp .quo q (I 2) λt=>Cl P 108 #[t] p λu v=>Ap P #[69,69] 69 #[m,u] v λy C=>R y C) (Bs P 69 1 #[(0,(I 1))] w λD E=>Ap P #[69,69] 69 #[(.slice none 0 0),D] E λF G=>Bp .sub c (I 2) λJ=>Bp .quo J (I 2) λL=>Cl P 108 #[L] G λM N=>Ap P #[69,69] 69 #[F,M] N λO Q=>R O Q))
theorem Tz108 (h:Vz108 prog a0 w R):Cl prog 108 #[a0] w R:=
 tz 29 [(.tmp 2)] (s z (s (s z (i (s z z) z)) (s z (s (s z (i (s z (s z (s z z))) z)) (s z (s z (s z z))))))) [a0] func108 h
def Vz109:VT2:=λP C f w R=>
 New (zeroP P 166) 166 w λg Q=>Cl P 156 #[C,f] Q λS U=>Lnl C λW=>Cl P 155 #[S,W] U λY L=>Bd P 166 #[(0,Y)] L λZ=>New (zeroP P 166) 166 L λe a0=>StA 2 e Z a0 λa1=>Cl P 157 #[C] a1 λc a2=>VLoop 1 [(I 0)] a2 λ_ a3 m D=>Bv .lss m (I 4) (Lnl c λM=>VLoop 2 [(.slice none 0 0),(I 0)] D λ_ a4 p E q=>Bv .lss E M (Ias 1 c E λa5=>Ld a5 q λa6=>Fo 0 e λa7=>Ld a7 q λa8=>Cl P 158 #[a6,a8] q λa9 b0=>Bs P 69 1 #[(0,a9)] b0 λb1 b2=>Ap P #[69,69] 69 #[p,b1] b2 λb3 b4=>Bp .add E (I 1) λb5=>KS [f,g,e,c,m,c,M]<|a4 b3 b5 b4) (Fo 0 e λb6=>Ld b6 q λb7=>Lnl b7 λv=>VLoop 2 [(.slice none 0 0),(I 0)] q λ_ b8 y k F=>Bp .lss k v λb9=>Vif b9 (Lnl c λG=>VLoop 2 [(.slice none 0 0),(I 0)] F λ_ N J t u=>Bv .lss t G (Ias 1 c t λc0=>Ld c0 u λc1=>Ias 1 p t λc2=>Ld c2 u λc3=>Bv .eql c3 k (Ap P #[69,69] 69 #[J,c1] u λc4 c5=>Bp .add t (I 1) λc6=>KS [f,g,e,c,p,y,k,m,v,k,c,G]<|N c4 c6 c5) (Bp .add t (I 1) λc7=>KS [f,g,e,c,p,y,k,m,v,k,c,G]<|N J c7 u)) (Cl P 156 #[J,f] u λc8 c9=>Cl P 159 #[c8] c9 λd0 d1=>Bs P 146 1 #[(0,d0)] d1 λd2 d3=>Ap P #[146,146] 146 #[y,d2] d3 λd4 d5=>Bp .add k (I 1) λd6=>KS [f,g,e,c,p,m,v]<|b8 d4 d6 d5)) (Bd P 166 #[(0,y),(1,p)] F λd7=>StA 2 e d7 F λd8=>Bp .add m (I 1) λd9=>KS [f,g,e,c]<|a3 d9 d8))) (LdA 2 e D λe0=>StA 2 g e0 D λO=>LdA 2 g O λe1=>R e1 O)
theorem Tz109 (h:Vz109 prog a0 a1 w R):Cl prog 109 #[a0,a1] w R:=
 tz 76 [(.cell 4 166)] (s z (s z (s z (s (s z (b (l [24] [1,4,5,6] (s z (s (i z z) (s (b (s z (s (s z (b (l [7,28] [1,4,5,6,24,26,27] (s z (s (i z z) (s (b (s z z)) z)))))) (s z (s (s z (b (l [10,43] [1,4,5,6,7,24,42] (s z (s (i z z) (s (b (s z (s z (s (s z (b (l [12,48] [1,4,5,6,7,10,11,24,42,43,46,47] (s z (s (i z z) (s (b (s z (s z (i z z)))) z)))))) z)))) z)))))) z))))) z)))))) (s z z))))) [a0,a1] func109 h
def Vz110:VT2:=λP c q w R=>
 Ci .u32 q λt=>Cl P 51 #[t,(I 3)] w λu v=>Lnl c λy=>Ci .u32 y λC=>Cl P 51 #[C,(I 15)] v λD E=>Bp .add u D λF=>Lnl c λg=>VLoop 3 [F,(.string ⟨#[48,49,50,51,52,53]⟩),(I 0)] E λ_ G k m e f=>Bp .lss e g λJ=>Vif J (Ias 1 c e λL=>Ld L f λM=>Ixs (.string ⟨#[48,49,50,51,52,53]⟩) M λN=>Cl P 106 #[m,N] f λp O=>Cl P 107 #[m,p] O λQ S=>Sst (.string ⟨#[49,49,49,49,49,49]⟩) none (some p) λU=>Bp .add k U λW=>Bp .add W (.string ⟨#[48]⟩) λY=>Bp .add e (I 1) λZ=>KS [c,g]<|G Y Q Z S) (R k f)
theorem Tz110 (h:Vz110 prog a0 a1 w R):Cl prog 110 #[a0,a1] w R:=
 tz 38 [(.tmp 4)] (s z (s z (s z (s (s z (b (l [5,6,20] [18,19] (s z (s (i z z) (s (b (s z (s z (s z z)))) z)))))) (s z z))))) [a0,a1] func110 h
def Vz111:VT1:=λP c w R=>
 Ias 1 c (I 0) λE=>Ld E w λF=>Ci .u32 F λG=>Cl P 51 #[G,(I 5)] w λJ u=>Ias 1 c (I 0) λL=>Ld L u λM=>Lnl c λk=>VLoop 3 [J,M,(I 0)] u λ_ N v m f p=>Bv .lss f k (Ias 1 c f λO=>Ld O p λg=>VLoop 2 [v,(I 0)] p λ_ y q e t=>Bv .lss e (I 40) (VJoin 1 (λ_ C D=>Bp .sub m g λQ=>Bp .lss e Q λS=>Vif S (Bp .add C (.string ⟨#[49,49]⟩) λU=>Bp .add e (I 1) λW=>KS [m,g,c,k,f]<|y U W D) (Bp .add e (I 1) λY=>KS [m,g,c,k,f]<|y C Y D)) (λJ25=>Bp .sub g m λZ=>Bp .lss e Z λa0=>Vif a0 (Bp .add q (.string ⟨#[49,48]⟩) λa1=>KS [m,g,e,c,k,f,e]<|J25 a1 t) (KS [m,g,e,c,k,f,e]<|J25 q t))) (Bp .add q (.string ⟨#[48]⟩) λa2=>Bp .add f (I 1) λa3=>KS [c,k]<|N a2 g a3 t)) (R v p)
theorem Tz111 (h:Vz111 prog a0 w R):Cl prog 111 #[a0] w R:=
 tz 45 [(.tmp 2)] (s z (s z (s z (s (s z (b (l [3,4,18] [16,17] (s z (s (i z z) (s (b (s z (s (s z (b (l [3,22] [4,6,16,17,18] (s z (s (i z z) (s (b (s z (j [3] [4,6,7,16,17,18,22] (s z (i z z)) (s z (i z z))))) z)))))) (s z z)))) z)))))) (s z z))))) [a0] func111 h
def Vz112:VT1:=λP c w R=>
 Lnl c λq=>Ms P 170 q q w λg E=>VLoop 2 [(.string ⟨#[]⟩),(I 1)] E λ_ F G e t=>Bv .leq e (I 20) (Lnl c λk=>VLoop 2 [G,(I 0)] t λ_ u m f p=>Bv .lss f k (Ias 1 c f λJ=>Ld J p λL=>Bv .neq L e (Bp .add f (I 1) λM=>KS [c,g,e,c,k]<|u m M p) (VJoin 1 (λ_ v N=>Ias 1 g f λO=>St O v N λQ=>Bp .add f (I 1) λS=>KS [c,g,e,c,k]<|u v S Q) (λJ19=>Bp .eql m (.string ⟨#[]⟩) λU=>Vif U (VLoop 2 [m,(I 0)] p λ_ W y C D=>Bv .lss C e (Bp .add y (.string ⟨#[48]⟩) λY=>Bp .add C (I 1) λZ=>KS [c,g,e,f,c,k,f,e]<|W Y Z D) (KS [c,g,e,f,c,k,f]<|J19 y D)) (Cl P 160 #[m,e] p λa0 a1=>KS [c,g,e,f,c,k,f]<|J19 a0 a1)))) (Bp .add e (I 1) λa2=>KS [c,g]<|F m a2 p)) (R g t)
theorem Tz112 (h:Vz112 prog a0 w R):Cl prog 112 #[a0] w R:=
 tz 42 [(.tmp 2)] (s z (s z (s z (s (s z (b (l [4,5] [0,3] (s (s z (i z z)) (s (b (s z (b (l [4,17] [0,3,5,15,16] (s z (s (i z z) (s (b (s z (s (s z (i z z)) (j [4] [0,3,5,6,15,16,17] (s z (i (s z (b (l [4,28] [0,3,5,6,15,16,17,27] (s z (s (i z z) (s (b z) z)))))) z)) z)))) z))))))) z))))) (s z z))))) [a0] func112 h
def Vz113:VT1:=λP e w R=>
 VLoop 1 [(I 0)] w λ_ k c m=>VJoin 1 (λ_ p g=>Vif p (Bp .add c (I 1) λq=>KS [e]<|k q g) (R c g)) (λJ5=>Dr m λf=>Lns e λt=>Bp .lss c t λu=>Vif u (Bv .lss c (I 255) (Ixs e c λv=>Ixs e (I 0) λy=>Bp .eql v y λC=>KS [e,c]<|J5 C f) (KS [e,c]<|J5 (.bool false) f)) (KS [e,c]<|J5 (.bool false) f))
theorem Tz113 (h:Vz113 prog a0 w R):Cl prog 113 #[a0] w R:=
 tz 23 [(.tmp 2)] (s z (s z (s (b (l [3] [0] (s (j [19] [0,3] (r (.staged [0,0,2,7,15,31,63,127,255,511,511,2047,511,4607,16383,32767])) (i z z)) (b z)))) (s z z)))) [a0] func113 h
def Vz114:VT1:=λP k w R=>
 VLoop 2 [k,(I 0)] w λ_ g c e f=>Bv .lss e (I 8) (Bv .geq c (.int .u32 2147483648) (Bp .sub c (.int .u32 2147483648) λm=>Bp .mul m (.int .u32 2) λp=>Bp .xor p (.int .u32 79764919) λq=>Bp .add e (I 1) λt=>KS []<|g q t f) (Bp .mul c (.int .u32 2) λu=>Bp .add e (I 1) λv=>KS []<|g u v f)) (R c f)
theorem Tz114 (h:Vz114 prog a0 w R):Cl prog 114 #[a0] w R:=
 tz 15 [(.tmp 2)] (s z (s (s z (b (l [0,3] [] (s z (s (i z z) (s (b (s z (i z z))) z)))))) (s z z))) [a0] func114 h
def Vz115:VT2:=λP c e w R=>
 VJoin 1 (λ_ p q=>Bv .neq p (I 0) (R p q) (Cl P 166 #[c] q λy C=>R y C)) (λJ4=>Nc c<|Fo 2 c λD=>Ld D w λE=>Up .not E λF=>Vif F (Cl P 161 #[c,e] w λG J=>KS [c]<|J4 G J) (Nc c<|Fo 0 c λL=>Ld L w λM=>Bn P 269 false M (.pointer none) λN=>Vif N (Cl P 162 #[c,e] w λO Q=>KS [c]<|J4 O Q) (Nc c<|Fo 0 c λS=>Ld S w λU=>Cl P 163 #[U] w λW t=>Vif W (Dr t λf=>Nc c<|Fo 5 c λg=>Ld g f λk=>Nc c<|Fo 0 c λY=>Ld Y f λZ=>Cl P 164 #[Z] f λa0 u=>Rk (λw K=>Ld g w λm=>K m) k u<|Bs P 54 1 #[(0,a0)] u λa1 v=>Rk (λw K=>Ld g w λm=>K m) k v<|Ap P #[54,54] 54 #[k,a1] v λa2 a3=>Nc c<|Fo 5 c λa4=>St a4 a2 a3 λa5=>KS [c]<|J4 (I 0) a5) (Cl P 165 #[c,e] t λa6 a7=>KS [c]<|J4 a6 a7))))
theorem Tz115 (h:Vz115 prog a0 a1 w R):Cl prog 115 #[a0,a1] w R:=
 tz 52 [(.tmp 4)] (s z (s z (j [5] [0] (b (s z (i z (s z (i z (s z (i (r (.staged [0,0,2,6,14,0,32,96,224,480,992,2046,4095,8191,16383])) z))))))) (s (s z (i (s z z) z)) (s z z))))) [a0,a1] func115 h
def Vz116:VT1:=λP c w R=>
 Dr w λe=>Nc c<|Fo 1 c λf=>Ld f e λg=>Nc c<|Fo 0 c λk=>Ld k e λm=>Lns m λp=>Bp .add g p λq=>Bp .mul (I 8) q λt=>R t e
theorem Tz116 (h:Vz116 prog a0 w R):Cl prog 116 #[a0] w R:=
 tz 14 [(.tmp 2)] (s z (s (r (.staged [0,1,3,7,0,16,48,112,240,511,1023,2047])) z)) [a0] func116 h
def Vz117:VT2:=λP c e w R=>
 Bv .eql c (.string ⟨#[]⟩) (R (.tuple #[(.pointer none),(I 1)]) w) (Lns c λm=>Bv .gtr m (I 900000) (R (.tuple #[(.pointer none),(I 2)]) w) (VJoin 1 (λ_ p f=>Vif p (R (.tuple #[(.pointer none),(I 23)]) f) (Lns c λg=>Ms P 69 g g f λq k=>Bd P 229 #[(0,c),(2,q),(3,e)] k λt=>New t 229 k λu v=>R (.tuple #[u,(I 0)]) v)) (λJ9=>Bv .lss e (I 0) (KS [c,e]<|J9 (.bool true) w) (Lns c λy=>Bp .geq e y λC=>KS [c,e]<|J9 C w))))
theorem Tz117 (h:Vz117 prog a0 a1 w R):Cl prog 117 #[a0,a1] w R:=
 tz 29 [(.tmp 4),(.tmp 5)] (s z (s (b (s z (i (s z z) (s z (i (s z z) (j [13] [0,1] z (i (s z z) z))))))) (s z z))) [a0,a1] func117 h
def Vz118:VT2:=λP c f w R=>
 Bn P 229 false c (.pointer none) λm=>Vif m (R (I 0) w) (Nc c<|Fo 260 c λp=>Ld p w λe=>VLoop 0 [] w λ_ q t=>VJoin 1 (λ_ u g=>Vif u (Cl P 168 #[c] g λN v=>KS [c,f,e]<|q v) (Nc c<|Fo 260 c λy=>Ld y g λC=>Bp .sub C e λD=>R D g)) (λJ10=>Cl P 167 #[c] t λE k=>Up .not E λF=>Vif F (Nc c<|Fo 260 c λG=>Ld G k λJ=>Bp .sub J e λL=>Bp .lss L f λM=>KS [c,f,e]<|J10 M k) (KS [c,f,e]<|J10 (.bool false) k)))
theorem Tz118 (h:Vz118 prog a0 a1 w R):Cl prog 118 #[a0,a1] w R:=
 tz 33 [(.tmp 4)] (s z (s (s z (i (s z z) z)) (s z (s (b (l [] [0,1,5] (s (j [24] [0,1,5] z (i z z)) (b z)))) (s z z))))) [a0,a1] func118 h
def Vz119:VT1:=λP c w R=>
 Bn P 229 false c (.pointer none) λe=>Vif e (R (.string ⟨#[]⟩) w) (Nc c<|Fo 259 c λf=>Ld f w λg=>Cw P 54 9 g w λk m=>Nc c<|Fo 259 c λp=>St p (.slice none 0 0) m λq=>R k q)
theorem Tz119 (h:Vz119 prog a0 w R):Cl prog 119 #[a0] w R:=
 tz 15 [(.tmp 2)] (s z (s (s z (i (s z z) z)) (s z (s z (s z z))))) [a0] func119 h
def Vz120:VT2:=λP e f w R=>
 Lns e λg=>VLoop 2 [(I 0),(I 0)] w λ_ p k c m=>Bv .lss c g (VJoin 1 (λ_ u v=>Ixs e c λy=>Inv P (do let d <-Deferred.ofValue f #[y,(I 1)];invoke d.target d.args) v λa3 C=>Bp .add c (I 1) λD=>KS [e,f,g]<|p u D C) (λJ10=>Bp .eql k (I 4) λE=>Vif E (Ixs e c λF=>Bv .gtr F (.int .u8 251) (R (I 25) m) (Dr m λG=>Bp .sub c (I 1) λJ=>Ixs e J λL=>Ixs e c λM=>Ci .i64 M λN=>Inv P (do let d <-Deferred.ofValue f #[L,N];invoke d.target d.args) G λa4 O=>Bp .add c (I 1) λQ=>KS [e,f,g]<|p (I 0) Q O)) (VJoin 1 (λ_ S q=>Vif S (Bp .add k (I 1) λU=>KS [e,f,c,g,c]<|J10 U q) (KS [e,f,c,g,c]<|J10 (I 1) q)) (λJ22=>Dr m λt=>Bp .gtr k (I 0) λW=>Vif W (Ixs e c λY=>Bp .sub c (I 1) λZ=>Ixs e Z λa0=>Bp .eql Y a0 λa1=>KS [e,f,k,c,g,c]<|J22 a1 t) (KS [e,f,k,c,g,c]<|J22 (.bool false) t))))) (Bp .eql k (I 4) λa2=>Vif a2 (R (I 24) m) (R (I 0) m))
theorem Tz120 (h:Vz120 prog a0 a1 w R):Cl prog 120 #[a0,a1] w R:=
 tz 52 [(.tmp 4)] (s z (s z (s (s z (b (l [5,9] [0,1,8] (s z (s (i z z) (s (b (s z (j [5] [0,1,6,8,9] (b (s z (i (s (s z (i (s z z) z)) (s (r (.staged [0,0,0,4,14,0,0,96,224,511])) (s z z))) (j [29] [0,1,5,6,8,9] (r (.staged [0,1,3,7,7,31,7,7,135,455,1023,2047,4095])) (i z z))))) z))) z)))))) (s (s z (i (s z z) z)) (s z z))))) [a0,a1] func120 h
def Vz121:VT3:=λP f g c w R=>
 VLoop 1 [(I 0)] w λ_ m k e=>Bv .lss k g (Ld c e λp=>Bs P 54 1 #[(0,f)] e λq t=>Ap P #[54,54] 54 #[p,q] t λu v=>St c u v λy=>Bp .add k (I 1) λC=>KS [f,c,g]<|m C y) (R (.tuple #[]) e)
theorem Tz121 (h:Vz121 prog a0 a1 a2 w R):Cl prog 121 #[a0,a1,a2] w R:=
 tz 13 [] (s z (b (l [6] [0,2,5] (s z (s (i z z) (s (b z) z)))))) [a0,a1,a2] func121 h
def Vz122:VT0:=λP w R=>
 Cl P 169 #[] w λe c=>Bd P 233 #[(0,e),(1,(.int .u32 4294967295))] c λf=>New f 233 c λg k=>R g k
theorem Tz122 (h:Vz122 prog w R):Cl prog 122 #[] w R:=
 tz 4 [(.tmp 0)] (s z (s z z)) [] func122 h
def Vz123:VT2:=λP f c w R=>
 Lns c λg=>VLoop 1 [(I 0)] w λ_ m e k=>Bv .lss e g (Ixs c e λp=>Cl P 170 #[f,p] k λu q=>Bp .add e (I 1) λt=>KS [f,c,g]<|m t q) (R (.tuple #[]) k)
theorem Tz123 (h:Vz123 prog a0 a1 w R):Cl prog 123 #[a0,a1] w R:=
 tz 16 [] (s z (b (l [7] [0,1,6] (s z (s (i z z) (s (b (s z z)) z)))))) [a0,a1] func123 h
def Vz124:VT1:=λP c w R=>
 Bn P 233 false c (.pointer none) λe=>Vif e (R (.int .u32 0) w) (Nc c<|Fo 256 c λf=>Ld f w λg=>Up .xor g λk=>R k w)
theorem Tz124 (h:Vz124 prog a0 w R):Cl prog 124 #[a0] w R:=
 tz 10 [(.tmp 2)] (s z (s (s z (i (s z z) z)) (s z z))) [a0] func124 h
def Vz125:VT2:=λP c e w R=>
 Dr w λf=>Sst c (some e) none λg=>Sst c none (some e) λk=>Bp .add g k λm=>R m f
theorem Tz125 (h:Vz125 prog a0 a1 w R):Cl prog 125 #[a0,a1] w R:=
 tz 12 [(.tmp 4)] (s z (s (r (.staged [0,0,3,0,0,24,63,127])) z)) [a0,a1] func125 h
def Vz126:VT3:=λP e f g w R=>
 Cl P 125 #[e,f] w λk p=>Cl P 125 #[e,g] p λm c=>Bv .lss k m (R (.bool true) c) (Bv .eql k m (Bp .lss f g λq=>R q c) (R (.bool false) c))
theorem Tz126 (h:Vz126 prog a0 a1 a2 w R):Cl prog 126 #[a0,a1,a2] w R:=
 tz 28 [(.tmp 6)] (s z (s z (s z (s z z)))) [a0,a1,a2] func126 h
def Vz127:VT1:=λP c w R=>
 Lnl c λg=>VLoop 2 [(.int .u32 0),(I 0)] w λ_ m k e f=>Bv .lss e g (Ias 1 c e λp=>Ld p f λq=>Cl P 171 #[k,q] f λt u=>Bp .add e (I 1) λv=>KS [c,g]<|m t v u) (R k f)
theorem Tz127 (h:Vz127 prog a0 w R):Cl prog 127 #[a0] w R:=
 tz 17 [(.tmp 2)] (s z (s z (s (s z (b (l [3,8] [6,7] (s z (s (i z z) (s (b (s z z)) z)))))) (s z z)))) [a0] func127 h
def Vz128:VT2:=λP c e w R=>
 Nc c<|Fo 1 c λm=>Ld m w λf=>Bv .eql f (I 0) (Cl P 172 #[c,e] w λp q=>R (.tuple #[(I 0),p]) q) (Bv .eql f (I 1) (Cl P 173 #[c,e] w λt u=>R (.tuple #[(I 0),t]) u) (Bv .eql f (I 2) (Cl P 174 #[c,e] w λg v=>Ex g 0 λy=>Ex g 1 λC=>R (.tuple #[y,C]) v) (Cl P 175 #[c,e] w λk D=>Ex k 0 λE=>Ex k 1 λF=>R (.tuple #[E,F]) D)))
theorem Tz128 (h:Vz128 prog a0 a1 w R):Cl prog 128 #[a0,a1] w R:=
 tz 32 [(.tmp 4),(.tmp 5)] (s z (s (s z (b (s z (i (s z z) (s z (i (s z z) (s z (i (s z z) z)))))))) (s z z))) [a0,a1] func128 h
def Vz129:VT1:=λP c w R=>
 Nc c<|Fo 0 c λe=>Ld e w λf=>Bn P 114 false f (.pointer none) λg=>Vif g (Cw P 112 234 c w λk m=>Cx P 176 #[k] m λp q=>Cw P 234 112 p q λt u=>Nc c<|Fo 0 c λv=>St v t u λy=>R (.tuple #[]) y) (Nc c<|Fo 0 c λC=>Ld C w λD=>Bn P 114 true D c λE=>Vif E (False) (R (.tuple #[]) w))
theorem Tz129 (h:Vz129 prog a0 w R):Cl prog 129 #[a0] w R:=
 tz 20 [] (s z (i z (s z (i z z)))) [a0] func129 h
def Vz130:VT2:=λP c e w R=>
 Bp .shl c (.int .u64 1) λf=>Bp .shr c (.int .u64 31) λg=>Bp .xor f g λk=>Bp .xor k e λm=>R m w
theorem Tz130 (h:Vz130 prog a0 a1 w R):Cl prog 130 #[a0,a1] w R:=
 tz 12 [(.tmp 4)] (s z (s z z)) [a0,a1] func130 h
def Vz131:VT1:=λP c w R=>
 VJoin 1 (λ_ k e=>Vif k (R (.tuple #[(.pointer none),(I 1)]) e) (Cl P 122 #[] e λm f=>Bd P 237 #[(1,m)] f λp=>Cl P 177 #[] f λq g=>Bd P 241 #[(0,p),(1,c),(2,q)] g λt=>New t 241 g λu v=>R (.tuple #[u,(I 0)]) v)) (λJ7=>Bv .lss c (I 5) (KS [c]<|J7 (.bool true) w) (Bp .gtr c (I 900000) λy=>KS [c]<|J7 y w))
theorem Tz131 (h:Vz131 prog a0 w R):Cl prog 131 #[a0] w R:=
 tz 16 [(.tmp 2),(.tmp 3)] (s z (s (j [9] [0] z (i (s z z) z)) (s z z))) [a0] func131 h
def Vz132:VT2:=λP c p w R=>
 New (zeroP P 132) 132 w λe k=>Bn P 241 false c (.pointer none) λD=>Vif D (Bd P 132 #[] k λE=>StA 3 e E k λq=>LdA 3 e q λF=>R (.tuple #[F,(.bool false)]) q) (Nc c<|Fo 4 c λG=>Ld G k λJ=>Cl P 178 #[J] k λL M=>New (zeroP P 86) 86 M λf N=>StA 2 f L N λt=>Nc c<|Fo 4 c λO=>Ld O t λQ=>Cl P 179 #[Q,p] t λm g=>Bv .eql m (.string ⟨#[]⟩) (Bd P 132 #[] g λS=>StA 3 e S g λu=>LdA 3 e u λU=>R (.tuple #[U,(.bool false)]) u) (VJoin 0 (λ_ v=>LdA 2 f v λW=>Lns m λY=>Cl P 180 #[c,W,Y] v λy Z=>Ex y 0 λa0=>Ex y 1 λa1=>StA 3 e a0 Z λC=>LdA 3 e C λa2=>R (.tuple #[a2,a1]) C) (λJ21=>Fo 0 f λa3=>Ld a3 g λa4=>Bv .eql a4 p (Fo 1 f λa5=>Ld a5 g λa6=>Bp .add a6 (I 1) λa7=>Fo 1 f λa8=>St a8 a7 g λa9=>KS [c,e,f,m]<|J21 a9) (KS [c,e,f,m]<|J21 g))))
theorem Tz132 (h:Vz132 prog a0 a1 w R):Cl prog 132 #[a0,a1] w R:=
 tz 40 [(.cell 4 132),(.tmp 5)] (s z (s (s z (i (s z z) z)) (s z (s z (s (s z (i (s z z) z)) (j [] [0,4,6,7] (s z (i z z)) (s z z))))))) [a0,a1] func132 h
def Vz133:VT1:=λP c w R=>
 Bn P 241 false c (.pointer none) λC=>Vif C (R (.slice none 0 0) w) (Nc c<|Fo 4 c λD=>Ld D w λE=>Cl P 178 #[E] w λF G=>New (zeroP P 86) 86 G λk J=>StA 2 k F J λm=>VJoin 1 (λ_ p L=>Nc c<|Fo 0 c λM=>Cl P 182 #[M] L λq N=>Ex q 0 λO=>Ex q 1 λQ=>New (zeroP P 132) 132 N λt S=>StA 3 t O S λe=>Vif Q (LdA 3 t e λU=>Bs P 128 1 #[(0,U)] e λW Y=>Ap P #[128,128] 128 #[p,W] Y λZ a0=>R Z a0) (R p e)) (λJ15=>Nc c<|Fo 4 c λa1=>Ld a1 m λa2=>Cl P 181 #[a2] m λu f=>Bv .neq u (.string ⟨#[]⟩) (LdA 2 k f λa3=>Lns u λa4=>Cl P 180 #[c,a3,a4] f λv a5=>Ex v 0 λa6=>Ex v 1 λa7=>New (zeroP P 132) 132 a5 λy a8=>StA 3 y a6 a8 λg=>Vif a7 (LdA 3 y g λa9=>Bs P 128 1 #[(0,a9)] g λb0 b1=>Ap P #[128,128] 128 #[(.slice none 0 0),b0] b1 λb2 b3=>KS [c]<|J15 b2 b3) (KS [c]<|J15 (.slice none 0 0) g)) (KS [c]<|J15 (.slice none 0 0) f)))
theorem Tz133 (h:Vz133 prog a0 w R):Cl prog 133 #[a0] w R:=
 tz 50 [(.tmp 2)] (s z (s (s z (i (s z z) z)) (s z (s z (j [3] [0] (s z (s z (i (s z (s z (i z z))) z))) (s (s z (s z (i z z))) (s z z))))))) [a0] func133 h
def Vz134:VT1:=λP f w R=>
 Lns f λc=>Bv .gtr c (I 900000) (R (.tuple #[(.pointer none),(I 2)]) w) (VJoin 1 (λ_ e q=>Nc e<|Fo 1 e λO=>Ld O q λQ=>Lnl Q λt=>VLoop 1 [(I 0)] q λ_ S k m=>Bv .lss k t (Nc e<|Fo 1 e λU=>Ld U m λW=>Ias 1 W k λY=>St Y k m λZ=>Bp .add k (I 1) λa0=>KS [c,e,t]<|S a0 Z) (Bd P 248 #[(0,(I 0)),(2,c)] m λa1=>Bs P 246 1 #[(0,a1)] m λa2 a3=>Nc e<|Fo 5 e λa4=>St a4 a2 a3 λa5=>R (.tuple #[e,(I 0)]) a5)) (λJ17=>Dr w λp=>Bp .lss c (I 2) λg=>(Ms P 69 c c p λu v=>(Ms P 69 c c v λa6 a7=>Ms P 69 c c a7 λa8 y=>Bd P 250 #[(0,f),(1,u),(2,a6),(3,a8),(13,g)] y λa9=>New a9 250 y λb0 b1=>KS [c]<|J17 b0 b1)/\(Ms P 69 c c v λb2 b3=>Ms P 69 c c b3 λb4 C=>Bd P 250 #[(0,f),(1,u),(2,b4),(3,b2),(13,g)] C λb5=>New b5 250 C λb6 b7=>KS [c]<|J17 b6 b7))/\((Ms P 69 c c p λD E=>(Ms P 69 c c E λb8 b9=>Ms P 69 c c b9 λc0 F=>Bd P 250 #[(0,f),(1,b8),(2,D),(3,c0),(13,g)] F λc1=>New c1 250 F λc2 c3=>KS [c]<|J17 c2 c3)/\(Ms P 69 c c E λc4 c5=>Ms P 69 c c c5 λc6 G=>Bd P 250 #[(0,f),(1,c6),(2,D),(3,c4),(13,g)] G λc7=>New c7 250 G λc8 c9=>KS [c]<|J17 c8 c9))/\(Ms P 69 c c p λJ L=>(Ms P 69 c c L λd0 d1=>Ms P 69 c c d1 λd2 M=>Bd P 250 #[(0,f),(1,d0),(2,d2),(3,J),(13,g)] M λd3=>New d3 250 M λd4 d5=>KS [c]<|J17 d4 d5)/\(Ms P 69 c c L λd6 d7=>Ms P 69 c c d7 λd8 N=>Bd P 250 #[(0,f),(1,d8),(2,d6),(3,J),(13,g)] N λd9=>New d9 250 N λe0 e1=>KS [c]<|J17 e0 e1)))))
theorem Tz134 (h:Vz134 prog a0 w R):Cl prog 134 #[a0] w R:=
 tz 45 [(.tmp 2),(.tmp 3)] (s z (s z (s (s z (i (s z z) z)) (j [5] [4] (r (.tree [0,0,2,0,8,0,32,0,128,511,1023,2047] (.op 0 (.op 1 (.op 3 (.op 5 (.op 7 (.op 8 (.fk (.op 2 (.fk (.op 4 (.op 6 (.op 9 (.op 10 (.op 11 .dn))))) (.op 6 (.op 4 (.op 9 (.op 10 (.op 11 .dn))))))) (.fk (.op 4 (.fk (.op 2 (.op 6 (.op 9 (.op 10 (.op 11 .dn))))) (.op 6 (.op 2 (.op 9 (.op 10 (.op 11 .dn))))))) (.op 6 (.fk (.op 2 (.op 4 (.op 9 (.op 10 (.op 11 .dn))))) (.op 4 (.op 2 (.op 9 (.op 10 (.op 11 .dn))))))))))))))))) (s (s z (b (l [27] [4,5,26] (s z (s (i z z) (s (b (s z z)) z)))))) (s z (s z z))))))) [a0] func134 h
def Vz135:VT2:=λP c f w R=>
 Bn P 250 false c (.pointer none) λm=>Vif m (R (I 0) w) (Nc c<|Fo 14 c λp=>Ld p w λe=>VLoop 0 [] w λ_ q g=>VJoin 1 (λ_ t k=>Vif t (Cl P 183 #[c] k λN u=>KS [c,f,e]<|q u) (Nc c<|Fo 14 c λv=>Ld v k λy=>Bp .sub y e λC=>R C k)) (λJ10=>Nc c<|Fo 15 c λD=>Ld D g λE=>Up .not E λF=>Vif F (Nc c<|Fo 14 c λG=>Ld G g λJ=>Bp .sub J e λL=>Bp .lss L f λM=>KS [c,f,e]<|J10 M g) (KS [c,f,e]<|J10 (.bool false) g)))
theorem Tz135 (h:Vz135 prog a0 a1 w R):Cl prog 135 #[a0,a1] w R:=
 tz 35 [(.tmp 4)] (s z (s (s z (i (s z z) z)) (s z (s (b (l [] [0,1,5] (s (j [26] [0,1,5] z (i z z)) (b z)))) (s z z))))) [a0,a1] func135 h
def Vz136:VT1:=λP c w R=>
 Bn P 250 true c (.pointer none) λe=>Vif e (Nc c<|Fo 15 c λf=>Ld f w λg=>R g w) (R (.bool false) w)
theorem Tz136 (h:Vz136 prog a0 w R):Cl prog 136 #[a0] w R:=
 tz 11 [(.tmp 2)] (s z (s z z)) [a0] func136 h
def Vz137:VT1:=λP c w R=>
 Cl P 136 #[c] w λf e=>Up .not f λg=>Vif g (R (.slice none 0 0) e) (Nc c<|Fo 1 c λk=>Ld k e λm=>Cl P 153 #[m] e λp q=>R p q)
theorem Tz137 (h:Vz137 prog a0 w R):Cl prog 137 #[a0] w R:=
 tz 11 [(.tmp 2)] (s z (s (s z (i (s z z) z)) (s z z))) [a0] func137 h
def Vz138:VT1:=λP c w R=>
 Nc c<|Fo 3 c λu=>Ld u w λv=>Lnl v λp=>Nc c<|Fo 2 c λy=>Ld y w λC=>Ias 1 C p λD=>Ld D w λe=>VJoin 0 (λ_ E=>Dr E λf=>Nc c<|Fo 3 c λg=>Ld g f λk=>Nc c<|Fo 0 c λF=>Ld F f λG=>Cl P 184 #[G,e] f λJ q=>Rk (λw K=>Ld g w λm=>K m) k q<|Bs P 54 1 #[(0,J)] q λL t=>Rk (λw K=>Ld g w λm=>K m) k t<|Ap P #[54,54] 54 #[k,L] t λM N=>Nc c<|Fo 3 c λO=>St O M N λQ=>R (.tuple #[]) Q) (λJ18=>Bv .eql e (I 0) (Nc c<|Fo 4 c λS=>St S p w λU=>KS [c,e]<|J18 U) (KS [c,e]<|J18 w))
theorem Tz138 (h:Vz138 prog a0 w R):Cl prog 138 #[a0] w R:=
 tz 37 [] (s z (s z (j [] [0,3] (s z (i z z)) (r (.staged [0,0,2,6,14,0,32,96,224,0,992,2016,4094,8191,16383,32767]))))) [a0] func138 h
def Vz139:VT2:=λP c e w R=>
 Cx P 185 #[c,e] w λf g=>R f g
theorem Tz139 (h:Vz139 prog a0 a1 w R):Cl prog 139 #[a0,a1] w R:=
 tz 8 [(.tmp 4)] (s z (s z z)) [a0,a1] func139 h
def Vz140:VT2:=λP c e w R=>
 Nc c<|Fo 0 c λm=>Ld m w λp=>Ias 1 p e λq=>Ld q w λg=>Dr w λf=>Nc c<|Fo 0 c λt=>Ld t f λu=>Bp .add e (I 1) λv=>Ssl 1 u (some (I 1)) (some v) λy=>Nc c<|Fo 0 c λC=>Ld C f λD=>Ssl 1 D none (some e) λE=>Cp P #[54,54] 3 #[y,E] f λM k=>Nc c<|Fo 0 c λF=>Ld F k λG=>Ias 1 G (I 0) λJ=>St J g k λL=>R g L
theorem Tz140 (h:Vz140 prog a0 a1 w R):Cl prog 140 #[a0,a1] w R:=
 tz 34 [(.tmp 4)] (s z (s z (s (r (.staged [0,1,3,7,0,16,63,0,128,384,896,0,3968,8191])) (s z (s z z))))) [a0,a1] func140 h
def Vz141:VT2:=λP f g w R=>
 Lnl f λk=>VLoop 1 [(I 0)] w λ_ m c e=>Bv .lss c k (Ias 1 f c λp=>Ld p e λq=>Bv .eql g q (R c e) (Bp .add c (I 1) λt=>KS [f,g,k]<|m t e)) (R (I (-1)) e)
theorem Tz141 (h:Vz141 prog a0 a1 w R):Cl prog 141 #[a0,a1] w R:=
 tz 19 [(.tmp 4)] (s z (s (s z (b (l [8] [0,1,7] (s z (s (i z z) (s (b (s z (s z (i (s z z) z)))) z)))))) (s z z))) [a0,a1] func141 h
def Vz142:VT2:=λP e f w R=>
 New (zeroP P 148) 148 w λc L=>Cl P 186 #[e,f] L λt u=>Ex t 0 λm=>Ex t 1 λM=>VJoin 1 (λ_ N p=>Vif N (Bd P 148 #[] p λO=>StA 2 c O p λv=>LdA 2 c v λQ=>R (.tuple #[Q,(I 1)]) v) (Lnl e λS=>Cl P 148 #[S] p λU q=>Bv .gtr U (I 32767) (Bd P 148 #[] q λW=>StA 2 c W q λy=>LdA 2 c y λY=>R (.tuple #[Y,(I 2)]) y) (Cl P 187 #[e] q λC Z=>Lnl e λa0=>Cl P 188 #[m,a0] Z λa1 D=>Bd P 148 #[(0,a1)] D λa2=>New (zeroP P 148) 148 D λg a3=>StA 2 g a2 a3 λa4=>VLoop 1 [(I 0)] a4 λ_ a5 E k=>Bv .lss E (I 4) (Fo 0 g λa6=>Ld a6 k λa7=>Cl P 189 #[C,a7,f] k λF G=>Ex F 0 λa8=>Ex F 1 λa9=>Bd P 148 #[(0,a9),(1,a8)] G λb0=>StA 2 g b0 G λb1=>Bp .add E (I 1) λb2=>KS [f,c,C,g]<|a5 b2 b1) (LdA 2 g k λb3=>StA 2 c b3 k λJ=>LdA 2 c J λb4=>R (.tuple #[b4,(I 0)]) J)))) (λJ30=>Bp .neq M (I 0) λb5=>Vif b5 (KS [e,f,c,m]<|J30 (.bool true) u) (Lnl e λb6=>Bp .eql b6 (I 0) λb7=>KS [e,f,c,m]<|J30 b7 u))
theorem Tz142 (h:Vz142 prog a0 a1 w R):Cl prog 142 #[a0,a1] w R:=
 tz 55 [(.cell 4 148),(.tmp 5)] (s z (s z (s (b (j [18] [0,1,4,6] z (i (s z z) (s z (i (s z z) z))))) (s z (s z (s (s z (b (l [40] [1,4,8,9] (s z (s (i z z) (s (b (s z z)) z)))))) (s z z))))))) [a0,a1] func142 h
def Vz143:VT2:=λP c m w R=>
 New m 3 w λe k=>VJoin 1 (λ_ p f=>Vif p (R (.bool false) f) (Mf P (.func 192) #[] #[e] f λq=>Cl P 191 #[c,q] f λt u=>Up .not t λv=>R v u)) (λJ6=>Ld e k λy=>Cl P 190 #[y] k λC g=>Up .not C λD=>Vif D (KS [c,e]<|J6 (.bool true) g) (Lnl c λE=>Bv .eql E (I 0) (KS [c,e]<|J6 (.bool true) g) (Lnl c λF=>Bp .gtr F (I 32767) λG=>KS [c,e]<|J6 G g)))
theorem Tz143 (h:Vz143 prog a0 a1 w R):Cl prog 143 #[a0,a1] w R:=
 tz 22 [(.tmp 4)] (s z (s (j [17] [0,3] z (i (s z z) z)) (s z z))) [a0,a1] func143 h
def Vz144:VT1:=λP c w R=>
 Cl P 193 #[] w λq t=>New (zeroP P 256) 256 t λf u=>StA 6 f q u λv=>Lnl c λm=>Ms P 69 m m v λg y=>Lnl c λp=>VLoop 1 [(I 0)] y λ_ C e k=>Bv .lss e p (Ias 1 c e λD=>Ld D k λE=>Cl P 194 #[f,E] k λF G=>Ias 1 g e λJ=>St J F G λL=>Bp .add e (I 1) λM=>KS [f,g,c,p]<|C M L) (R g k)
theorem Tz144 (h:Vz144 prog a0 w R):Cl prog 144 #[a0] w R:=
 tz 25 [(.tmp 2)] (s z (s z (s z (s (s z (b (l [13] [3,4,11,12] (s z (s (i z z) (s (b (s z z)) z)))))) (s z z))))) [a0] func144 h
def Vz145:VT1:=λP c w R=>
 Lnl c λf=>Cl P 195 #[f] w λg e=>Vif g (Cl P 191 #[c,(.func (.func 196) #[] #[])] e λk m=>Up .not k λp=>R p m) (R (.bool false) e)
theorem Tz145 (h:Vz145 prog a0 w R):Cl prog 145 #[a0] w R:=
 tz 11 [(.tmp 2)] (s z (s z z)) [a0] func145 h
def Vz146:VT2:=λP e c w R=>
 Ias 1 e (I 0) λy=>Ld y w λt=>Inv P (do let d <-Deferred.ofValue c #[t,(I 5)];invoke d.target d.args) w λW C=>Lnl e λg=>VLoop 2 [t,(I 0)] C λ_ D E f m=>Bv .lss f g (Ias 1 e f λF=>Ld F m λk=>VLoop 1 [E] m λ_ G p u=>Bv .lss p k (Inv P (do let d <-Deferred.ofValue c #[(I 2),(I 2)];invoke d.target d.args) u λY J=>Bp .add p (I 1) λL=>KS [c,k,e,g,f]<|G L J) (VLoop 1 [p] u λ_ M q v=>Bp .gtr q k λN=>Vif N (Inv P (do let d <-Deferred.ofValue c #[(I 3),(I 2)];invoke d.target d.args) v λZ O=>Bp .sub q (I 1) λQ=>KS [c,k,e,g,f]<|M Q O) (Inv P (do let d <-Deferred.ofValue c #[(I 0),(I 1)];invoke d.target d.args) v λa0 S=>Bp .add f (I 1) λU=>KS [c,e,g]<|D q U S))) (R (.tuple #[]) m)
theorem Tz146 (h:Vz146 prog a0 a1 w R):Cl prog 146 #[a0,a1] w R:=
 tz 36 [] (s z (s z (s z (b (l [4,15] [1,13,14] (s z (s (i z z) (s (b (s z (s (b (l [4] [1,6,13,14,15] (s (s z (i z z)) (s (b z) z)))) (s (b (l [4] [1,6,13,14,15] (s (s z (i z z)) (s (b z) z)))) z)))) z)))))))) [a0,a1] func146 h
def Vz147:VT3:=λP m e c w R=>
 Ld c w λf=>Bp .add f e λg=>St c g w λk=>R (.tuple #[]) k
theorem Tz147 (h:Vz147 prog a0 a1 a2 w R):Cl prog 147 #[a0,a1,a2] w R:=
 tz 8 [] z [a0,a1,a2] func147 h
def Vz148:VT1:=λP c w R=>
 Bv .leq c (I 0) (R (I 0) w) (Bp .sub c (I 1) λe=>Bp .quo e (I 50) λf=>Bp .add f (I 1) λg=>R g w)
theorem Tz148 (h:Vz148 prog a0 w R):Cl prog 148 #[a0] w R:=
 tz 9 [(.tmp 2)] (s z (s (s z (i (s z z) z)) (s z z))) [a0] func148 h
def Vz149:VT2:=λP e c w R=>
 VJoin 1 (λ_ g f=>Vif g (R (.tuple #[(.slice none 0 0),(I 1)]) f) (Cl P 198 #[e,c,(I 50)] f λk m=>R (.tuple #[k,(I 0)]) m)) (λJ3=>Bv .lss c (I 0) (KS [e,c]<|J3 (.bool true) w) (Lnl e λp=>Cl P 148 #[p] w λq t=>Bp .geq c q λu=>KS [e,c]<|J3 u t))
theorem Tz149 (h:Vz149 prog a0 a1 w R):Cl prog 149 #[a0,a1] w R:=
 tz 18 [(.tmp 4),(.tmp 5)] (s z (s (j [14] [0,1] z (i (s z z) z)) (s z z))) [a0,a1] func149 h
def Vz150:VT2:=λP e c w R=>
 Cl P 199 #[c] w λu t=>Up .not u λv=>Vif v (R (.tuple #[(I 0),(I 1)]) t) (Lnl e λk=>VLoop 2 [(I 0),(I 0)] t λ_ y m f p=>Bv .lss f k (Ias 1 e f λC=>Ld C p λg=>VJoin 1 (λ_ D q=>Vif D (R (.tuple #[(I 0),(I 1)]) q) (Ias 1 c g λE=>Ld E q λF=>Cl P 200 #[m,F] q λG J=>Bp .add f (I 1) λL=>KS [c,e,k]<|y G L J)) (λJ15=>Bp .lss g (I 0) λM=>Vif M (KS [c,m,g,e,k,f]<|J15 (.bool true) p) (Lnl c λN=>Bp .geq g N λO=>KS [c,m,g,e,k,f]<|J15 O p))) (R (.tuple #[m,(I 0)]) p))
theorem Tz150 (h:Vz150 prog a0 a1 w R):Cl prog 150 #[a0,a1] w R:=
 tz 34 [(.tmp 4),(.tmp 5)] (s z (s (s z (i (s z z) z)) (s z (s (s z (b (l [6,14] [1,12,13] (s z (s (i z z) (s (b (s z (s (j [25] [1,6,8,12,13,14] z (i (s z z) z)) z))) z)))))) (s z z))))) [a0,a1] func150 h
def Vz151:VT3:=λP c e f w R=>
 Ld f w λg=>Ci .u32 c λk=>Cl P 45 #[g,k,e] w λp m=>R (.tuple #[]) m
theorem Tz151 (h:Vz151 prog a0 a1 a2 w R):Cl prog 151 #[a0,a1,a2] w R:=
 tz 10 [] z [a0,a1,a2] func151 h
def Vz152:VT1:=λP e w R=>
 Cl P 201 #[e] w λf c=>Ex f 0 λg=>Ex f 1 λk=>Bv .eql k (I 0) (Bv .eql g (I 1048576) (Cl P 202 #[e,(I 0)] c λm p=>Up .not m λq=>R q p) (R (.bool false) c)) (R (.bool false) c)
theorem Tz152 (h:Vz152 prog a0 w R):Cl prog 152 #[a0] w R:=
 tz 21 [(.tmp 2)] (s z (s z (s z z))) [a0] func152 h
def Vz153:VT1:=λP c w R=>
 Be P .eql 69 (.tmp 3) (.const (.slice none 0 0)) c (.slice none 0 0) w λe=>Vif e (R (.slice none 0 0) w) (Bs P 69 0 #[] w λf g=>Ap P #[69,69] 69 #[f,c] g λk m=>R k m)
theorem Tz153 (h:Vz153 prog a0 w R):Cl prog 153 #[a0] w R:=
 tz 8 [(.tmp 2)] (s z (s (s z (i (s z z) z)) (s z z))) [a0] func153 h
def Vz154:VT2:=λP c e w R=>
 Bn P 219 false c (.pointer none) λk=>Vif k (R (.tuple #[(.int .u32 0),(I 0),(I 7)]) w) (VJoin 1 (λ_ m g=>Vif m (R (.tuple #[(.int .u32 0),(I 0),(I 1)]) g) (Dr g λf=>Nc c<|Fo 1 c λp=>Ld p f λq=>Ias 1 q e λt=>Ld t f λu=>Nc c<|Fo 0 c λv=>Ld v f λy=>Ias 1 y e λC=>Ld C f λD=>R (.tuple #[u,D,(I 0)]) f)) (λJ15=>Bv .lss e (I 0) (KS [c,e]<|J15 (.bool true) w) (Nc c<|Fo 0 c λE=>Ld E w λF=>Lnl F λG=>Bp .geq e G λJ=>KS [c,e]<|J15 J w)))
theorem Tz154 (h:Vz154 prog a0 a1 w R):Cl prog 154 #[a0,a1] w R:=
 tz 36 [(.tmp 4),(.tmp 5),(.tmp 6)] (s z (s (b (s z (i (s z z) (j [10] [0,1] z (i (s z z) z))))) (s (r (.staged [0,1,3,7,0,31,63,0,128,384,896,0,3968,8064,127,32767,65535])) z))) [a0,a1] func154 h
def Vz155:VT2:=λP e g w R=>
 Cl P 203 #[g] w λc E=>VLoop 2 [(.slice none 0 0),(I 0)] E λ_ F k f y=>Bv .lss f c (Lnl e λp=>VLoop 3 [(.slice none 0 0),(I 0),(I 0)] y λ_ G q C m u=>Bv .lss m p (Ias 1 e m λJ=>Ld J u λt=>VJoin 1 (λ_ v D=>VJoin 1 (λ_ L M=>Bp .add v t λN=>Bp .add m (I 1) λO=>KS [e,g,c,k,f,c,f,e,p]<|G L N O M) (λJ18=>Bp .mul v c λQ=>Bp .quo Q g λS=>Bp .eql S f λU=>Vif U (Bs P 69 1 #[(0,(I 0))] D λW Y=>Ap P #[69,69] 69 #[q,W] Y λZ a0=>KS [e,g,c,k,f,v,t,c,f,e,p,m]<|J18 Z a0) (Bs P 69 1 #[(0,(I 15))] D λa1 a2=>Ap P #[69,69] 69 #[q,a1] a2 λa3 a4=>KS [e,g,c,k,f,v,t,c,f,e,p,m]<|J18 a3 a4))) (λJ26=>Bp .sub g (I 1) λa5=>Bp .gtr C a5 λa6=>Vif a6 (Bp .sub g (I 1) λa7=>KS [e,g,c,k,f,q,t,c,f,e,p,m]<|J26 a7 u) (KS [e,g,c,k,f,q,t,c,f,e,p,m]<|J26 C u))) (Bs P 146 1 #[(0,q)] u λa8 a9=>Ap P #[146,146] 146 #[k,a8] a9 λb0 b1=>Bp .add f (I 1) λb2=>KS [e,g,c,c]<|F b0 b2 b1)) (R k y)
theorem Tz155 (h:Vz155 prog a0 a1 w R):Cl prog 155 #[a0,a1] w R:=
 tz 53 [(.tmp 4)] (s z (s z (s z (s (s z (b (l [6,15] [0,1,5,14] (s z (s (i z z) (s (b (s z (s z (s z (s (s z (b (l [8,9,20] [0,1,5,6,7,14,15,18,19] (s z (s (i z z) (s (b (s z (j [9] [0,1,5,6,7,8,11,14,15,18,19,20] (s z (i z z)) (j [8] [0,1,5,6,7,9,11,14,15,18,19,20] (s z (i z z)) z)))) z)))))) z))))) z)))))) (s z z))))) [a0,a1] func155 h
def Vz156:VT2:=λP e f w R=>
 VLoop 2 [(.slice none 0 0),(I 0)] w λ_ m g c k=>Bv .lss c f (Cl P 204 #[e,c] k λp q=>Bs P 69 1 #[(0,p)] q λt u=>Ap P #[69,69] 69 #[g,t] u λv y=>Bp .add c (I 1) λC=>KS [e,f]<|m v C y) (R g k)
theorem Tz156 (h:Vz156 prog a0 a1 w R):Cl prog 156 #[a0,a1] w R:=
 tz 19 [(.tmp 4)] (s z (s z (s (s z (b (l [5,8] [0,7] (s z (s (i z z) (s (b (s z z)) z)))))) (s z z)))) [a0,a1] func156 h
def Vz157:VT1:=λP c w R=>
 Lnl c λf=>VLoop 3 [(.slice none 0 0),(.slice none 0 0),(I 0)] w λ_ p g u e m=>Bv .lss e f (Ias 1 c e λv=>Ld v m λy=>Bs P 69 1 #[(0,y)] m λC D=>Ap P #[69,69] 69 #[u,C] D λk q=>VJoin 1 (λ_ E t=>Vif E (Bs P 146 1 #[(0,k)] t λF G=>Ap P #[146,146] 146 #[g,F] G λJ L=>Bp .add e (I 1) λM=>KS [c,c,f]<|p J (.slice none 0 0) M L) (Bp .add e (I 1) λN=>KS [c,c,f]<|p g k N t)) (λJ16=>Lnl k λO=>Bp .eql O (I 50) λQ=>Vif Q (KS [c,g,k,c,f,e]<|J16 (.bool true) q) (Bp .add e (I 1) λS=>Lnl c λU=>Bp .eql S U λW=>KS [c,g,k,c,f,e]<|J16 W q))) (R g m)
theorem Tz157 (h:Vz157 prog a0 w R):Cl prog 157 #[a0] w R:=
 tz 34 [(.tmp 2)] (s z (s z (s z (s (s z (b (l [3,4,9] [0,7,8] (s z (s (i z z) (s (b (s z (s z (j [27] [0,3,4,7,8,9] z (i (s z z) z))))) z)))))) (s z z))))) [a0] func157 h
def Vz158:VT2:=λP f c w R=>
 Lnl c λg=>VLoop 2 [(I 0),(I 0)] w λ_ p k e m=>Bv .lss e g (Ias 1 c e λC=>Ld C m λD=>Dr m λq=>Cl P 205 #[f,D] q λE t=>Ias 1 c k λu=>Ld u t λv=>Rk (λw K=>Ld u w λF=>K F) v q<|Cl P 205 #[f,v] t λG y=>Bv .lss E G (Bp .add e (I 1) λJ=>KS [f,c,c,g]<|p e J y) (Bp .add e (I 1) λL=>KS [f,c,c,g]<|p k L y)) (R k m)
theorem Tz158 (h:Vz158 prog a0 a1 w R):Cl prog 158 #[a0,a1] w R:=
 tz 28 [(.tmp 4)] (s z (s z (s (s z (b (l [5,10] [0,1,8,9] (s z (s (i z z) (s (b (s z (s (r (.staged [0,0,3,0,0,0,48,112,255,511])) (i z z)))) z)))))) (s z z)))) [a0,a1] func158 h
def Vz159:VT1:=λP c w R=>
 Lnl c λf=>VLoop 2 [(.slice none 0 0),(I 0)] w λ_ y g e k=>Bv .lss e f (Ias 1 c e λC=>Ld C k λm=>VJoin 1 (λ_ D E=>Bs P 69 1 #[(0,D)] E λF G=>Ap P #[69,69] 69 #[g,F] G λJ L=>Bp .add e (I 1) λM=>KS [c,f]<|y J M L) (λJ12=>Bp .eql m (I 0) λN=>Vif N (KS [g,c,f,e]<|J12 (I 1) k) (KS [g,c,f,e]<|J12 m k))) (VLoop 2 [g,(I 0)] k λ_ O p q t=>Bv .lss q (I 100) (Cl P 206 #[p] t λu Q=>Cl P 207 #[u,(I 1),(I 20)] Q λS v=>Vif S (R u v) (Cl P 208 #[p] v λU W=>Bp .add q (I 1) λY=>KS []<|O U Y W)) (R (.slice none 0 0) t))
theorem Tz159 (h:Vz159 prog a0 w R):Cl prog 159 #[a0] w R:=
 tz 30 [(.tmp 2)] (s z (s z (s (s z (b (l [3,9] [7,8] (s z (s (i z z) (s (b (s z (j [5] [3,7,8,9] (s z (i z z)) z))) z)))))) (s (s z (b (l [3,20] [] (s z (s (i z z) (s (b (s z (s (s z (i (s z z) z)) z))) z)))))) (s z z))))) [a0] func159 h
def Vz160:VT2:=λP c e w R=>
 Lns c λC=>Bp .sub C (I 1) λD=>VLoop 3 [(.string ⟨#[]⟩),(.bool true),D] w λ_ t m g f p=>Bp .geq f (I 0) λE=>Vif E (Ixs c f λF=>Bp .eql F (.int .u8 49) λk=>VJoin 1 (λ_ u v=>Vif g (Bp .sub f (I 1) λG=>KS [c,e]<|t u k G v) (Bp .sub f (I 1) λJ=>KS [c,e]<|t u (.bool false) J v)) (λJ13=>Bb true k g λL=>Vif L (Bp .add (.string ⟨#[49]⟩) m λM=>KS [c,e,g,f,k]<|J13 M p) (Bp .add (.string ⟨#[48]⟩) m λN=>KS [c,e,g,f,k]<|J13 N p))) (VLoop 1 [m] p λ_ O q y=>Lns q λQ=>Bp .lss Q e λS=>Vif S (Bp .add q (.string ⟨#[48]⟩) λU=>KS [e]<|O U y) (R q y))
theorem Tz160 (h:Vz160 prog a0 a1 w R):Cl prog 160 #[a0,a1] w R:=
 tz 38 [(.tmp 4)] (s z (s z (s z (s (s z (b (l [5,6,7] [0,1] (s (s z (i z z)) (s (b (s z (j [5] [0,1,6,7,8] (s z (i z z)) z))) z))))) (s (b (l [5] [1] (s (s z (i z z)) (b z)))) (s z z)))))) [a0,a1] func160 h
def Vz161:VT2:=λP c e w R=>
 Cl P 74 #[e] w λq f=>Bv .lss q (I 57) (R (I 3) f) (Cl P 209 #[e,(I 32)] f λg t=>Ex g 0 λu=>Ex g 1 λN=>Cl P 209 #[e,(I 1)] t λk v=>Ex k 0 λy=>Ex k 1 λO=>Cl P 209 #[e,(I 24)] v λm C=>Ex m 0 λD=>Ex m 1 λQ=>Nc c<|Fo 2 c λE=>St E (.bool true) C λF=>Nc c<|Fo 3 c λG=>St G u F λJ=>Ci .i64 D λL=>Nc c<|Fo 4 c λM=>St M L J λp=>Bv .eql y (.int .u32 1) (R (I 25) p) (R (I 0) p))
theorem Tz161 (h:Vz161 prog a0 a1 w R):Cl prog 161 #[a0,a1] w R:=
 tz 43 [(.tmp 4)] (s z (s (s z (i (s z z) z)) (s z (s z (s z (s z (s z (s z (s (s z (i (s z z) z)) (s z z)))))))))) [a0,a1] func161 h
def Vz162:VT2:=λP c k w R=>
 Cl P 210 #[k] w λg e=>Ex g 0 λm=>Ex g 1 λf=>Bv .eql f (I 0) (Nc c<|Fo 1 c λp=>Ld p e λq=>Cl P 211 #[m,q] e λt u=>Nc c<|Fo 0 c λv=>St v t u λy=>R f y) (R f e)
theorem Tz162 (h:Vz162 prog a0 a1 w R):Cl prog 162 #[a0,a1] w R:=
 tz 24 [(.tmp 4)] (s z (s z (s (s z (i z z)) (s z z)))) [a0,a1] func162 h
def Vz163:VT1:=λP c w R=>
 Bn P 269 true c (.pointer none) λe=>Vif e (Nc c<|Fo 3 c λf=>Ld f w λg=>Bv .gtr g (I 0) (R (.bool true) w) (Nc c<|Fo 4 c λk=>Ld k w λm=>Bp .gtr m (I 0) λp=>R p w)) (R (.bool false) w)
theorem Tz163 (h:Vz163 prog a0 w R):Cl prog 163 #[a0] w R:=
 tz 19 [(.tmp 2)] (s z (s z z)) [a0] func163 h
def Vz164:VT1:=λP c w R=>
 VJoin 1 (λ_ g e=>Nc c<|Fo 2 c λk=>Ld k e λm=>Cl P 212 #[m,g] e λf p=>Ex f 0 λq=>Ex f 1 λM=>R q p) (λJ7=>Nc c<|Fo 3 c λt=>Ld t w λu=>Bv .gtr u (I 0) (Nc c<|Fo 3 c λv=>Ld v w λy=>Bp .sub y (I 1) λC=>Nc c<|Fo 3 c λD=>St D C w λE=>KS [c]<|J7 (I 0) E) (Nc c<|Fo 4 c λF=>Ld F w λG=>Nc c<|Fo 4 c λJ=>St J (I 0) w λL=>KS [c]<|J7 G L))
theorem Tz164 (h:Vz164 prog a0 w R):Cl prog 164 #[a0] w R:=
 tz 35 [(.tmp 2)] (s z (s z (j [3] [0] (s z (i z (s z z))) (s z (s z z))))) [a0] func164 h
def Vz165:VT2:=λP c q w R=>
 Nc c<|Fo 0 c λt=>Ld t w λk=>Nc k<|Fo 0 k λu=>Ld u w λv=>Cl P 213 #[v,q] w λm p=>Ex m 0 λe=>Ex m 1 λf=>VJoin 1 (λ_ y g=>Vif y (R f g) (Nc c<|Fo 0 c λC=>Ld C g λD=>Cl P 214 #[D,e] g λE F=>R E F)) (λJ12=>Bv .neq f (I 0) (KS [c,e,f]<|J12 (.bool true) p) (Bp .lss e (I 0) λG=>KS [c,e,f]<|J12 G p))
theorem Tz165 (h:Vz165 prog a0 a1 w R):Cl prog 165 #[a0,a1] w R:=
 tz 32 [(.tmp 4)] (s z (s z (s (j [24] [0,5,6] z (i (s z z) z)) (s z z)))) [a0,a1] func165 h
def Vz166:VT1:=λP c w R=>
 VJoin 1 (λ_ m g=>Vif m (R (I 0) g) (Dr g λe=>Nc c<|Fo 4 c λp=>Ld p e λq=>Nc c<|Fo 5 c λt=>Ld t e λu=>Lnl u λv=>Bv .geq q v (R (I 23) e) (Nc c<|Fo 6 c λy=>St y (.bool true) e λC=>R (I 0) C))) (λJ12=>Nc c<|Fo 0 c λD=>Ld D w λE=>Bn P 269 false E (.pointer none) λF=>Vif F (KS [c]<|J12 (.bool true) w) (Nc c<|Fo 0 c λG=>Ld G w λk=>Nc k<|Fo 0 k λJ=>Ld J w λL=>Cl P 215 #[L] w λM f=>Up .not M λN=>Vif N (KS [c]<|J12 (.bool true) f) (Nc c<|Fo 0 c λO=>Ld O f λQ=>Cl P 163 #[Q] f λS U=>KS [c]<|J12 S U)))
theorem Tz166 (h:Vz166 prog a0 w R):Cl prog 166 #[a0] w R:=
 tz 41 [(.tmp 2)] (s z (s (b (j [3] [0] z (i (s z z) (s (r (.staged [0,1,3,7,0,16,48,112,240,511,1023])) (i (s z z) z))))) (s z (s z z)))) [a0] func166 h
def Vz167:VT1:=λP c w R=>
 Dr w λe=>Bn P 229 true c (.pointer none) λf=>Vif f (Nc c<|Fo 260 c λg=>Ld g e λk=>Nc c<|Fo 0 c λm=>Ld m e λp=>Lns p λq=>Bp .mul (I 3) q λt=>Bp .eql k t λu=>R u e) (R (.bool false) e)
theorem Tz167 (h:Vz167 prog a0 w R):Cl prog 167 #[a0] w R:=
 tz 18 [(.tmp 2)] (s z (s (r (.staged [0,1,3,7,15,31,63,7,135,391,903,1927,3975,8191,16383,32767])) z)) [a0] func167 h
def Vz168:VT1:=λP c w R=>
 Nc c<|Fo 0 c λG=>Ld G w λJ=>Lns J λk=>Nc c<|Fo 260 c λL=>Ld L w λM=>Bp .rem M k λe=>VJoin 0 (λ_ t=>Nc c<|Fo 260 c λN=>Ld N t λO=>Bp .add O (I 1) λQ=>Nc c<|Fo 260 c λS=>St S Q t λU=>R (.tuple #[]) U) (λJ11=>Nc c<|Fo 260 c λW=>Ld W w λY=>Bp .quo Y k λu=>Bp .eql u (I 0) λZ=>Vif Z (Dr w λm=>Nc c<|Fo 0 c λa0=>Ld a0 m λa1=>Ixs a1 e λv=>Nc c<|Fo 1 c λa2=>Iaa 256 1 a2 v λa3=>Ld a3 m λa4=>Bp .add a4 (I 1) λa5=>Nc c<|Fo 1 c λa6=>Iaa 256 1 a6 v λa7=>St a7 a5 m λy=>Bp .sub k (I 1) λa8=>Bp .eql e a8 λa9=>Vif a9 (Cl P 216 #[c] y λe6 b0=>KS [c]<|J11 b0) (KS [c]<|J11 y)) (Bv .eql u (I 1) (Nc c<|Fo 0 c λb1=>Ld b1 w λb2=>Ixs b2 e λp=>Dr w λq=>Nc c<|Fo 257 c λb3=>Ld b3 q λb4=>Nc c<|Fo 1 c λb5=>Iaa 256 1 b5 p λb6=>Ld b6 q λb7=>Ias 1 b4 b7 λb8=>St b8 e q λb9=>Dr b9 λC=>Nc c<|Fo 1 c λc0=>Iaa 256 1 c0 p λc1=>Ld c1 C λc2=>Bp .add c2 (I 1) λc3=>Nc c<|Fo 1 c λc4=>Iaa 256 1 c4 p λc5=>St c5 c3 C λc6=>KS [c]<|J11 c6) (Dr w λf=>Nc c<|Fo 257 c λc7=>Ld c7 f λc8=>Nc c<|Fo 258 c λc9=>Ld c9 f λd0=>Ias 1 c8 d0 λd1=>Ld d1 f λd2=>Nc c<|Fo 258 c λd3=>St d3 d2 f λd4=>Dr d4 λg=>Nc c<|Fo 259 c λD=>Ld D g λE=>Nc c<|Fo 0 c λd5=>Ld d5 g λd6=>Nc c<|Fo 258 c λd7=>Ld d7 g λd8=>Ixs d6 d8 λd9=>Bs P 54 1 #[(0,d9)] g λe0 F=>Rk (λw K=>Ld D w λe1=>K e1) E F<|Ap P #[54,54] 54 #[E,e0] F λe2 e3=>Nc c<|Fo 259 c λe4=>St e4 e2 e3 λe5=>KS [c]<|J11 e5)))
theorem Tz168 (h:Vz168 prog a0 w R):Cl prog 168 #[a0] w R:=
 tz 113 [] (s z (s z (j [] [0] (s z (b (s z (i (s (r (.staged [0,0,2,6,14,0,62,1,129,511,1023,2047,1,4097,16383,32767])) (s z (i z z))) (s z (i (s z (s (r (.staged [0,1,3,7,0,0,16,80,240,496,0,2047,4095])) (r (.staged [0,0,1,5,15,31,63,1,129,511,1023])))) (s (r (.staged [0,0,2,6,14,0,32,96,224,510,1022,2047,4095,8191])) (r (.staged [0,0,2,6,14,0,32,96,224,0,512,1536,3584,8160,16352,32766,65535,131071,262143]))))))))) z))) [a0] func168 h
def Vz169:VT0:=λP w R=>
 New (zeroP P 230) 230 w λe t=>New (zeroP P 230) 230 t λf u=>VLoop 1 [(I 0)] u λ_ v c g=>Bv .lss c (I 256) (Ci .u32 c λy=>Bp .shl y (.int .u64 24) λC=>VLoop 2 [C,(I 0)] g λ_ D k m p=>Bp .lss m (I 8) λE=>Vif E (Bp .shr k (.int .u64 31) λF=>Bp .shl k (.int .u64 1) λG=>Bp .mul F (.int .u32 79764919) λJ=>Bp .xor G J λL=>Bp .add m (I 1) λM=>KS [e,f,c,c]<|D L M p) (Iaa 256 1 f c λN=>St N k p λO=>Bp .add c (I 1) λQ=>KS [e,f]<|v Q O)) (LdA 256 f g λS=>StA 256 e S g λq=>LdA 256 e q λU=>R U q)
theorem Tz169 (h:Vz169 prog w R):Cl prog 169 #[] w R:=
 tz 26 [(.cell 0 230)] (s z (s z (s (s z (b (l [5] [0,1] (s z (s (i z z) (s (b (s z (s z (s (s z (b (l [3,11] [0,1,2,5] (s z (s (i z z) (s (b (s z z)) z)))))) z)))) z)))))) (s z z)))) [] func169 h
def Vz170:VT2:=λP c f w R=>
 Bn P 233 true c (.pointer none) λg=>Vif g (Dr w λe=>Nc c<|Fo 0 c λk=>Nc c<|Fo 256 c λm=>Ld m e λp=>Cl P 217 #[k,p,f] e λq t=>Nc c<|Fo 256 c λu=>St u q t λv=>R (.tuple #[]) v) (R (.tuple #[]) w)
theorem Tz170 (h:Vz170 prog a0 a1 w R):Cl prog 170 #[a0,a1] w R:=
 tz 18 [] (s z (i (r (.staged [0,0,2,6,0,16,48,112,0,510,1023,2047,4095])) z)) [a0,a1] func170 h
def Vz171:VT2:=λP c e w R=>
 Bp .mul c (.int .u32 2) λf=>Bp .geq c (.int .u32 2147483648) λg=>Vif g (Bp .add f (.int .u32 1) λk=>Bp .xor k e λm=>R m w) (Bp .xor f e λp=>R p w)
theorem Tz171 (h:Vz171 prog a0 a1 w R):Cl prog 171 #[a0,a1] w R:=
 tz 15 [(.tmp 4)] (s z (s z (s (s z (i z z)) (s z z)))) [a0,a1] func171 h
def Vz172:VT2:=λP c p w R=>
 Cl P 209 #[p,(I 8)] w λg e=>Ex g 0 λf=>Ex g 1 λk=>Bv .neq k (I 0) (R k e) (Nc c<|Fo 2 c λq=>Ld q e λt=>Bv .lss t (I 3) (Nc c<|Fo 2 c λu=>Ld u e λv=>Ixs (.string ⟨#[66,90,104]⟩) v λy=>Ci .u32 y λC=>Bv .neq f C (R (I 20) e) (Nc c<|Fo 2 c λD=>Ld D e λE=>Bp .add E (I 1) λF=>Nc c<|Fo 2 c λG=>St G F e λJ=>R (I 0) J)) (VJoin 1 (λ_ L m=>Vif L (R (I 20) m) (Bp .sub f (.int .u32 48) λM=>Ci .i64 M λN=>Nc c<|Fo 3 c λO=>St O N m λQ=>Nc c<|Fo 2 c λS=>St S (I 0) Q λU=>Nc c<|Fo 8 c λW=>St W (.int .u32 0) U λY=>Nc c<|Fo 1 c λZ=>St Z (I 1) Y λa0=>R (I 0) a0)) (λJ24=>Bp .lss f (.int .u32 49) λa1=>Vif a1 (KS [c,f]<|J24 (.bool true) e) (Bp .gtr f (.int .u32 57) λa2=>KS [c,f]<|J24 a2 e))))
theorem Tz172 (h:Vz172 prog a0 a1 w R):Cl prog 172 #[a0,a1] w R:=
 tz 59 [(.tmp 4)] (s z (s z (s (b (s z (i (s z z) (s z (i (s (s z (i (s z z) z)) (s z (s z z))) (j [37] [0,5] z (i (s z z) z))))))) (s z (s z (s z (s z (s z z)))))))) [a0,a1] func172 h
def Vz173:VT2:=λP c e w R=>
 Cl P 74 #[e] w λu k=>Bv .lss u (I 48) (R (I 3) k) (Cl P 209 #[e,(I 24)] k λm v=>Ex m 0 λy=>Ex m 1 λa4=>Cl P 209 #[e,(I 24)] v λp f=>Ex p 0 λC=>Ex p 1 λa5=>Ci .u64 y λD=>Bp .shl D (.int .u64 24) λE=>Ci .u64 C λF=>Bp .or E F λq=>Bp .eql q (.int .u64 54156738319193) λG=>Vif G (Dr f λg=>Nc c<|Fo 3 c λJ=>Ld J g λL=>Nc c<|Fo 0 c λM=>Ld M g λN=>Bp .mul L N λO=>Cl P 57 #[O] g λt Q=>Ex t 0 λS=>Ex t 1 λU=>Nc c<|Fo 4 c λW=>St W S Q λY=>Nc c<|Fo 1 c λZ=>St Z (I 2) Y λa0=>R U a0) (Bp .eql q (.int .u64 25779555029136) λa1=>Vif a1 (Nc c<|Fo 1 c λa2=>St a2 (I 3) f λa3=>R (I 0) a3) (R (I 20) f)))
theorem Tz173 (h:Vz173 prog a0 a1 w R):Cl prog 173 #[a0,a1] w R:=
 tz 58 [(.tmp 4)] (s z (s (s z (i (s z z) z)) (s z (s z (s (s z (b (s z (i (s (r (.staged [0,1,3,7,0,16,48,112,255,511,1023,2047,2047,4095,16383])) (s z (s z (s z z)))) (s z (i (s z (s z z)) z)))))) (s z z)))))) [a0,a1] func173 h
def Vz174:VT2:=λP c m w R=>
 Nc c<|Fo 4 c λp=>Ld p w λq=>Cl P 59 #[q,m] w λe f=>VJoin 1 (λ_ t g=>Vif t (R (.tuple #[(I 0),e]) g) (Nc c<|Fo 4 c λu=>Ld u g λv=>Cl P 61 #[v] g λy C=>Nc c<|Fo 5 c λD=>StA 3 D y C λE=>Nc c<|Fo 4 c λF=>St F (.pointer none) E λG=>Dr G λk=>Nc c<|Fo 8 c λJ=>Ld J k λL=>Nc c<|Fo 5 c λM=>Fo 2 M λN=>Ld N k λO=>Cl P 130 #[L,O] k λQ S=>Nc c<|Fo 8 c λU=>St U Q S λW=>Nc c<|Fo 1 c λY=>St Y (I 1) W λZ=>R (.tuple #[(I 1),(I 0)]) Z)) (λJ20=>Bv .neq e (I 0) (KS [c,e]<|J20 (.bool true) f) (Nc c<|Fo 4 c λa0=>Ld a0 f λa1=>Cl P 58 #[a1] f λa2 a3=>Up .not a2 λa4=>KS [c,e]<|J20 a4 a3))
theorem Tz174 (h:Vz174 prog a0 a1 w R):Cl prog 174 #[a0,a1] w R:=
 tz 51 [(.tmp 4),(.tmp 5)] (s z (s z (s (j [22] [0,6] z (i (s z z) z)) (s z (s z (s (r (.staged [0,0,2,6,14,0,32,96,224,480,1022,2047,4095,8191])) (s z (s z z)))))))) [a0,a1] func174 h
def Vz175:VT2:=λP c f w R=>
 Cl P 209 #[f,(I 32)] w λg e=>Ex g 0 λm=>Ex g 1 λk=>Bv .neq k (I 0) (R (.tuple #[(I 0),k]) e) (Nc c<|Fo 8 c λp=>Ld p e λq=>Bv .neq m q (R (.tuple #[(I 0),(I 21)]) e) (Cl P 218 #[f] e λD t=>Nc c<|Fo 1 c λu=>St u (I 0) t λv=>Nc c<|Fo 9 c λy=>St y (.bool true) v λC=>R (.tuple #[(I 2),(I 0)]) C))
theorem Tz175 (h:Vz175 prog a0 a1 w R):Cl prog 175 #[a0,a1] w R:=
 tz 32 [(.tmp 4),(.tmp 5)] (s z (s z (s (b (s z (i (s z z) (s z (i (s z z) z))))) (s z (s z (s z (s z z))))))) [a0,a1] func175 h
def Vz177:VT0:=λP w R=>
 Bd P 276 #[] w λc=>New c 276 w λe f=>R e f
theorem Tz177 (h:Vz177 prog w R):Cl prog 177 #[] w R:=
 tz 3 [(.tmp 0)] (s z (s z z)) [] func177 h
def Vz178:VT1:=λP f w R=>
 New (zeroP P 86) 86 w λc e=>Bn P 276 false f (.pointer none) λm=>Vif m (Bd P 86 #[] e λp=>StA 2 c p e λg=>LdA 2 c g λq=>R q g) (Nc f<|Fo 0 f λt=>LdA 2 t e λu=>StA 2 c u e λk=>LdA 2 c k λv=>R v k)
theorem Tz178 (h:Vz178 prog a0 w R):Cl prog 178 #[a0] w R:=
 tz 10 [(.cell 2 86)] (s z (s (s z (i (s z z) z)) (s z z))) [a0] func178 h
def Vz179:VT2:=λP c e w R=>
 Bn P 276 false c (.pointer none) λp=>Vif p (R (.string ⟨#[]⟩) w) (VJoin 1 (λ_ g q=>Nc c<|Fo 0 c λt=>Fo 0 t λu=>St u e q λk=>Nc c<|Fo 0 c λv=>Fo 1 v λy=>Ld y k λC=>Bp .add C (I 1) λD=>Nc c<|Fo 0 c λE=>Fo 1 E λF=>St F D k λf=>Nc c<|Fo 0 c λG=>Fo 1 G λJ=>Ld J f λL=>Bp .eql L (I 255) λM=>Vif M (Cl P 219 #[c] f λN O=>Bp .add g N λQ=>R Q O) (R g f)) (λJ17=>VJoin 1 (λ_ S m=>Vif S (Cl P 219 #[c] m λU W=>KS [c,e]<|J17 U W) (KS [c,e]<|J17 (.string ⟨#[]⟩) m)) (λJ20=>Nc c<|Fo 0 c λY=>Fo 1 Y λZ=>Ld Z w λa0=>Bp .gtr a0 (I 0) λa1=>Vif a1 (Nc c<|Fo 0 c λa2=>Fo 0 a2 λa3=>Ld a3 w λa4=>Bp .neq a4 e λa5=>KE [c,e,(.string ⟨#[]⟩)] [c,e,(.string ⟨#[]⟩)]<|J20 a5 w) (KE [c,e,(.string ⟨#[]⟩)] [c,e,(.string ⟨#[]⟩)]<|J20 (.bool false) w))))
theorem Tz179 (h:Vz179 prog a0 a1 w R):Cl prog 179 #[a0,a1] w R:=
 tz 50 [(.tmp 4)] (s z (s (s z (i (s z z) z)) (s z (j [5] [0,1] (j [22] [0,1,5] z (i z z)) (s z (s z (s (s z (i z z)) (s z z)))))))) [a0,a1] func179 h
def Vz180:VT3:=λP c u v w R=>
 New u 86 w λk y=>New (zeroP P 132) 132 y λe C=>New (zeroP P 132) 132 C λf D=>VJoin 1 (λ_ E F=>Dr F λm=>Nc c<|Fo 0 c λG=>LdA 2 k m λJ=>Cl P 220 #[G,J] m λa5 p=>LdA 3 f p λL=>StA 3 e L p λq=>LdA 3 e q λM=>R (.tuple #[M,E]) q) (λJ11=>Dr D λg=>Nc c<|Fo 0 c λN=>Fo 0 N λO=>Ld O g λQ=>Lnl Q λS=>Bp .add S v λU=>Nc c<|Fo 3 c λW=>Ld W g λY=>Bp .gtr U Y λZ=>Vif Z (Nc c<|Fo 0 c λa0=>Cl P 182 #[a0] g λt a1=>Ex t 0 λa2=>Ex t 1 λa3=>StA 3 f a2 a1 λa4=>KS [c,k,e,f]<|J11 a3 a4) (KS [c,k,e,f]<|J11 (.bool false) g))
theorem Tz180 (h:Vz180 prog a0 a1 a2 w R):Cl prog 180 #[a0,a1,a2] w R:=
 tz 37 [(.cell 6 132),(.tmp 7)] (s z (s z (s z (j [9] [0,4,6,8] (s (r (.staged [0,1,3,7,15,31,0,127,0,256,768,1792,4095])) (i z z)) (s (r (.staged [0,1,3,0,15])) (s z z)))))) [a0,a1,a2] func180 h
def Vz181:VT1:=λP c w R=>
 Bn P 276 false c (.pointer none) λe=>Vif e (R (.string ⟨#[]⟩) w) (Cl P 219 #[c] w λf g=>R f g)
theorem Tz181 (h:Vz181 prog a0 w R):Cl prog 181 #[a0] w R:=
 tz 7 [(.tmp 2)] (s z (s (s z (i (s z z) z)) (s z z))) [a0] func181 h
def Vz182:VT1:=λP c w R=>
 New (zeroP P 132) 132 w λq F=>Nc c<|Fo 0 c λZ=>Ld Z F λa0=>Lnl a0 λa1=>Bv .eql a1 (I 0) (Bd P 132 #[] F λa2=>StA 3 q a2 F λM=>LdA 3 q M λa3=>R (.tuple #[a3,(.bool false)]) M) (VJoin 1 (λ_ a4 a5=>Nc c<|Fo 0 c λa6=>St a6 (.slice none 0 0) a5 λa7=>Nc c<|Fo 2 c λa8=>St a8 (I 0) a7 λN=>Nc c<|Fo 1 c λa9=>Ld a9 N λb0=>Cl P 221 #[b0] N λb8 O=>LdA 3 a4 O λb1=>StA 3 q b1 O λQ=>LdA 3 q Q λb2=>R (.tuple #[b2,(.bool true)]) Q) (λJ16=>Dr F λt=>Nc c<|Fo 0 c λv=>Ld v t λe=>Cv P 54 9 e t λf=>Nc c<|Fo 1 c λJ=>Ld J t λG=>Nc c<|Fo 2 c λy=>Ld y t λg=>(Cl P 124 #[G] t λS C=>Rk (λw K=>Ld y w λk=>K k) g C<|Rk (λw K=>Cv P 54 9 e w λm=>K m) f C<|Rk (λw K=>Ld v w λp=>K p) e C<|Bd P 132 #[(0,f),(1,S),(2,g)] C λU=>New (zeroP P 132) 132 C λW u=>Rk (λw K=>Bd P 132 #[(0,f),(1,S),(2,g)] w λb3=>K b3) U u<|Rk (λw K=>Ld y w λk=>K k) g u<|Rk (λw K=>Ld J w λL=>K L) G u<|Rk (λw K=>Cv P 54 9 e w λm=>K m) f u<|Rk (λw K=>Ld v w λp=>K p) e u<|StA 3 W U u λb4=>KS [c,q]<|J16 W b4)/\(New (zeroP P 132) 132 t λY D=>Rk (λw K=>Ld y w λk=>K k) g D<|Rk (λw K=>Ld J w λL=>K L) G D<|Rk (λw K=>Cv P 54 9 e w λm=>K m) f D<|Rk (λw K=>Ld v w λp=>K p) e D<|Cl P 124 #[G] D λb5 E=>Rk (λw K=>Ld y w λk=>K k) g E<|Rk (λw K=>Cv P 54 9 e w λm=>K m) f E<|Rk (λw K=>Ld v w λp=>K p) e E<|Bd P 132 #[(0,f),(1,b5),(2,g)] E λb6=>StA 3 Y b6 E λb7=>KS [c,q]<|J16 Y b7)))
theorem Tz182 (h:Vz182 prog a0 w R):Cl prog 182 #[a0] w R:=
 tz 39 [(.cell 2 132),(.tmp 3)] (s z (s (s z (i (s z z) z)) (j [4] [0,2] (r (.tree [0,1,3,7,15,0,32,96,224,480,0,1024,3072,7168,16383,0,65535] (.op 0 (.op 1 (.op 2 (.op 3 (.op 4 (.op 5 (.op 6 (.op 7 (.op 8 (.op 10 (.op 11 (.op 12 (.op 13 (.fk (.op 9 (.op 14 (.op 15 (.op 16 .dn)))) (.op 15 (.op 9 (.op 14 (.op 16 .dn)))))))))))))))))))) (s z (s z (s z (s z z))))))) [a0] func182 h
def Vz183:VT1:=λP c w R=>
 Cl P 222 #[c] w λa7 k=>VJoin 0 (λ_ g=>Nc c<|Fo 14 c λm=>Ld m g λp=>Bp .add p (I 1) λq=>Nc c<|Fo 14 c λt=>St t q g λu=>R (.tuple #[]) u) (λJ6=>VJoin 1 (λ_ v e=>Vif v (Cl P 223 #[c] e λa8 y=>KS [c]<|J6 y) (Nc c<|Fo 6 c λC=>Fo 2 C λD=>Ld D e λE=>Bp .gtr E (I 0) λF=>Vif F (Cl P 224 #[c] e λa9 G=>KS [c]<|J6 G) (Nc c<|Fo 5 c λJ=>Ld J e λL=>Lnl L λM=>Bv .gtr M (I 0) (Cl P 225 #[c] e λb0 N=>KS [c]<|J6 N) (Cl P 226 #[c] e λb1 O=>KS [c]<|J6 O)))) (λJ20=>Dr k λf=>Nc c<|Fo 6 c λQ=>Fo 2 Q λS=>Ld S f λU=>Bv .gtr U (I 0) (Nc c<|Fo 9 c λW=>Ld W f λY=>Nc c<|Fo 6 c λZ=>Fo 1 Z λa0=>Ld a0 f λa1=>Nc c<|Fo 6 c λa2=>Fo 0 a2 λa3=>Ld a3 f λa4=>Bp .sub a1 a4 λa5=>Bp .lss Y a5 λa6=>KS [c]<|J20 a6 f) (KS [c]<|J20 (.bool false) f)))
theorem Tz183 (h:Vz183 prog a0 w R):Cl prog 183 #[a0] w R:=
 tz 58 [] (s z (j [] [0] (b (j [6] [0] (r (.staged [0,1,3,7,15,31,63,127,255,511,1023,127,2175,6271,14463,30847,127,65663,196735,458879,983167,2095231,4194303,8388607,16777215])) (i z (s z (i z (s z (i z z))))))) z)) [a0] func183 h
def Vz184:VT2:=λP c e w R=>
 Bv .eql e (I 0) (Lns c λf=>Bp .sub f (I 1) λg=>Ixs c g λk=>R k w) (Bp .sub e (I 1) λm=>Ixs c m λp=>R p w)
theorem Tz184 (h:Vz184 prog a0 a1 w R):Cl prog 184 #[a0,a1] w R:=
 tz 16 [(.tmp 4)] (s z (s (s z (i (s z z) z)) (s z z))) [a0,a1] func184 h
def Vz186:VT2:=λP e c w R=>
 VJoin 1 (λ_ u t=>Vif u (R (.tuple #[(.slice none 0 0),(I 1)]) t) (Ms P 69 c c t λf v=>Lnl e λm=>VLoop 1 [(I 0)] v λ_ y k p=>Bv .lss k m (Ias 1 e k λC=>Ld C p λg=>VJoin 1 (λ_ D q=>Vif D (R (.tuple #[(.slice none 0 0),(I 1)]) q) (Ias 1 f g λE=>Ld E q λF=>Bp .add F (I 1) λG=>Ias 1 f g λJ=>St J G q λL=>Bp .add k (I 1) λM=>KS [c,f,e,m]<|y M L)) (λJ15=>Bp .lss g (I 0) λN=>Vif N (KS [c,f,g,e,m,k]<|J15 (.bool true) p) (Bp .geq g c λO=>KS [c,f,g,e,m,k]<|J15 O p))) (R (.tuple #[f,(I 0)]) p))) (λJ18=>Bp .lss c (I 3) λQ=>Vif Q (KS [e,c]<|J18 (.bool true) w) (Bp .gtr c (I 258) λS=>KS [e,c]<|J18 S w))
theorem Tz186 (h:Vz186 prog a0 a1 w R):Cl prog 186 #[a0,a1] w R:=
 tz 38 [(.tmp 4),(.tmp 5)] (s z (s (j [14] [0,1] z (i (s z z) z)) (s z (s (s z (b (l [19] [1,6,17,18] (s z (s (i z z) (s (b (s z (s (j [29] [1,6,8,17,18,19] z (i (s z z) z)) z))) z)))))) (s z z))))) [a0,a1] func186 h
def Vz187:VT1:=λP c w R=>
 Lnl c λp=>Cl P 148 #[p] w λf q=>VLoop 2 [(.slice none 0 0),(I 0)] q λ_ t g e k=>Bv .lss e f (Cl P 149 #[c,e] k λm u=>Ex m 0 λv=>Ex m 1 λG=>Bs P 146 1 #[(0,v)] u λy C=>Ap P #[146,146] 146 #[g,y] C λD E=>Bp .add e (I 1) λF=>KS [c,f]<|t D F E) (R g k)
theorem Tz187 (h:Vz187 prog a0 w R):Cl prog 187 #[a0] w R:=
 tz 25 [(.tmp 2)] (s z (s z (s (s z (b (l [3,10] [0,9] (s z (s (i z z) (s (b (s z (s z z))) z)))))) (s z z)))) [a0] func187 h
def Vz188:VT2:=λP f g w R=>
 Cl P 227 #[g] w λk L=>Ms P 146 k k L λc M=>Lnl c λE=>VLoop 1 [(I 0)] M λ_ N u F=>Bv .lss u E (Lnl f λG=>Ms P 69 G G F λO Q=>Ias 1 c u λS=>St S O Q λU=>Bp .add u (I 1) λW=>KS [f,g,k,c,E]<|N W U) (Lnl f λq=>VLoop 2 [(I 0),(I 0)] F λ_ Y t e v=>Bp .lss e q λZ=>Vif Z (Ias 1 f e λa0=>Ld a0 v λy=>Bp .mul t k λa1=>Bp .quo a1 g λC=>Lnl c λD=>VLoop 1 [(I 0)] v λ_ J m p=>Bp .lss m D λa2=>Vif a2 (Bv .neq m C (Ias 1 c m λa3=>Ld a3 p λa4=>Ias 1 a4 e λa5=>St a5 (I 15) p λa6=>Bp .add m (I 1) λa7=>KS [g,k,c,t,e,y,C,f,q,e,D]<|J a7 a6) (Bp .add m (I 1) λa8=>KS [g,k,c,t,e,y,C,f,q,e,D]<|J a8 p)) (Bp .add t y λa9=>Bp .sub g (I 1) λb0=>Bmin P #[3,3] 3 #[a9,b0] p λb1=>Bp .add e (I 1) λb2=>KS [g,k,c,f,q]<|Y b1 b2 p)) (R c v))
theorem Tz188 (h:Vz188 prog a0 a1 w R):Cl prog 188 #[a0,a1] w R:=
 tz 64 [(.tmp 4)] (s z (s z (s z (s (s z (b (l [19] [0,1,5,6,18] (s z (s (i z z) (s (b (s z z)) z)))))) (s z (s (s z (b (l [8,31] [1,5,6,29,30] (s z (s (i z z) (s (b (s z (s z (s (s z (b (l [43] [1,5,6,8,9,10,11,29,30,31,42] (s z (s (i z z) (s (b (s z (s z (i z z)))) z)))))) z)))) z)))))) (s z z))))))) [a0,a1] func188 h
def Vz189:VT3:=λP f g e w R=>
 Lnl g λy=>Ms P 146 y y w λc Q=>Lnl c λC=>VLoop 1 [(I 0)] Q λ_ S k D=>Bv .lss k C (Ms P 69 e e D λU W=>Ias 1 c k λY=>St Y U W λZ=>Bp .add k (I 1) λa0=>KS [f,g,e,(.slice none 0 0),c,C]<|S a0 Z) (Lnl f λE=>VLoop 2 [(.slice none 0 0),(I 0)] D λ_ a1 m p q=>Bp .lss p E λa2=>Vif a2 (Ias 1 f p λa3=>Ld a3 q λF=>Cl P 228 #[F,g] q λt a4=>Bs P 69 1 #[(0,t)] a4 λa5 a6=>Ap P #[69,69] 69 #[m,a5] a6 λa7 a8=>Cl P 186 #[F,e] a8 λG J=>Ex G 0 λa9=>Ex G 1 λc8=>Ias 1 c t λb0=>Ld b0 J λb1=>Cl P 229 #[b1,a9] J λL b2=>Ex L 0 λb3=>Ex L 1 λc9=>Ias 1 c t λb4=>St b4 b3 b2 λb5=>Bp .add p (I 1) λb6=>KS [g,e,c,f,E]<|a1 a7 b6 b5) (Lnl c λM=>VLoop 2 [(.slice none 0 0),(I 0)] q λ_ b7 N u v=>Bp .lss u M λb8=>Vif b8 (Ias 1 c u λb9=>Ld b9 v λc0=>Cl P 230 #[c0] v λO c1=>Ex O 0 λc2=>Ex O 1 λd0=>Bs P 146 1 #[(0,c2)] c1 λc3 c4=>Ap P #[146,146] 146 #[N,c3] c4 λc5 c6=>Bp .add u (I 1) λc7=>KS [m,c,M]<|b7 c5 c7 c6) (R (.tuple #[m,N]) v)))
theorem Tz189 (h:Vz189 prog a0 a1 a2 w R):Cl prog 189 #[a0,a1,a2] w R:=
 tz 88 [(.tmp 6),(.tmp 7)] (s z (s z (s z (s (s z (b (l [28] [0,1,2,8,9,27] (s z (s (i z z) (s (b (s z z)) z)))))) (s (s z (b (l [8,39] [1,2,9,37,38] (s z (s (i z z) (s (b (s z (s z (s z (s z (s z z)))))) z)))))) (s z (s (s z (b (l [18,72] [8,70,71] (s z (s (i z z) (s (b (s z (s z z))) z)))))) (s z z)))))))) [a0,a1,a2] func189 h
def Vz190:VT1:=λP c w R=>
 Bv .geq c (I 2) (Bp .leq c (I 6) λe=>R e w) (R (.bool false) w)
theorem Tz190 (h:Vz190 prog a0 w R):Cl prog 190 #[a0] w R:=
 tz 9 [(.tmp 2)] (s z (s z z)) [a0] func190 h
def Vz191:VT2:=λP c e w R=>
 Cl P 231 #[c,e] w λf g=>Bp .geq f (I 0) λk=>R k g
theorem Tz191 (h:Vz191 prog a0 a1 w R):Cl prog 191 #[a0,a1] w R:=
 tz 9 [(.tmp 4)] (s z (s z z)) [a0,a1] func191 h
def Vz192:VT2:=λP c e w R=>
 Bv .lss c (I 0) (R (.bool true) w) (Ld e w λf=>Bp .geq c f λg=>R g w)
theorem Tz192 (h:Vz192 prog a0 a1 w R):Cl prog 192 #[a0,a1] w R:=
 tz 11 [(.tmp 3)] (s z (s z z)) [a0,a1] func192 h
def Vz193:VT0:=λP w R=>
 New (zeroP P 256) 256 w λe m=>New (zeroP P 256) 256 m λf p=>VLoop 1 [(I 0)] p λ_ q c g=>Bv .lss c (I 6) (Iaa 6 1 f c λt=>St t c g λu=>Bp .add c (I 1) λv=>KS [e,f]<|q v u) (LdA 6 f g λy=>StA 6 e y g λk=>LdA 6 e k λC=>R C k)
theorem Tz193 (h:Vz193 prog w R):Cl prog 193 #[] w R:=
 tz 11 [(.cell 0 256)] (s z (s z (s (s z (b (l [3] [0,1] (s z (s (i z z) (s (b (s z z)) z)))))) (s z z)))) [] func193 h
def Vz194:VT2:=λP c g w R=>
 VLoop 1 [(I 0)] w λ_ k e f=>Nc c<|Iaa 6 1 c e λm=>Ld m f λp=>Bv .neq p g (Bp .add e (I 1) λq=>KS [c,g]<|k q f) (Cl P 232 #[c,e] f λu t=>R e t)
theorem Tz194 (h:Vz194 prog a0 a1 w R):Cl prog 194 #[a0,a1] w R:=
 tz 19 [(.tmp 4)] (s z (s z (s (b (l [5] [0,1] (s (s z (i z z)) (b z)))) (s z (s z z))))) [a0,a1] func194 h
def Vz195:VT1:=λP c w R=>
 Bv .geq c (I 3) (Bp .leq c (I 258) λe=>R e w) (R (.bool false) w)
theorem Tz195 (h:Vz195 prog a0 w R):Cl prog 195 #[a0] w R:=
 tz 9 [(.tmp 2)] (s z (s z z)) [a0] func195 h
def Vz196:VT1:=λP c w R=>
 Cl P 197 #[c] w λe f=>Up .not e λg=>R g f
theorem Tz196 (h:Vz196 prog a0 w R):Cl prog 196 #[a0] w R:=
 tz 6 [(.tmp 2)] (s z (s z z)) [a0] func196 h
def Vz197:VT1:=λP c w R=>
 Bv .geq c (I 1) (Bp .leq c (I 20) λe=>R e w) (R (.bool false) w)
theorem Tz197 (h:Vz197 prog a0 w R):Cl prog 197 #[a0] w R:=
 tz 9 [(.tmp 2)] (s z (s z z)) [a0] func197 h
def Vz198:VT3:=λP c e f w R=>
 Bp .mul e f λg=>Lnl c λk=>Bp .add e (I 1) λm=>Bp .mul m f λp=>Bmin P #[3,3] 3 #[k,p] w λq=>Ssl 1 c (some g) (some q) λt=>Cl P 153 #[t] w λu v=>R u v
theorem Tz198 (h:Vz198 prog a0 a1 a2 w R):Cl prog 198 #[a0,a1,a2] w R:=
 tz 20 [(.tmp 6)] (s z (s z z)) [a0,a1,a2] func198 h
def Vz199:VT1:=λP c w R=>
 Cl P 191 #[c,(.func (.func 233) #[] #[])] w λe f=>Up .not e λg=>R g f
theorem Tz199 (h:Vz199 prog a0 w R):Cl prog 199 #[a0] w R:=
 tz 6 [(.tmp 2)] (s z (s z z)) [a0] func199 h
def Vz200:VT2:=λP c e w R=>
 Bp .add c e λf=>Bmin P #[3,3] 3 #[f,(I 1099511627776)] w λg=>R g w
theorem Tz200 (h:Vz200 prog a0 a1 w R):Cl prog 200 #[a0,a1] w R:=
 tz 9 [(.tmp 4)] (s z (s z z)) [a0,a1] func200 h
def Vz201:VT1:=λP c w R=>
 VJoin 1 (λ_ p g=>Vif p (R (.tuple #[(I 0),(I 1)]) g) (Lnl c λk=>VLoop 2 [(I 0),(I 0)] g λ_ q m e f=>Bv .lss e k (Ias 1 c e λt=>Ld t f λu=>Bp .sub (I 20) u λv=>Bp .shl (I 1) v λy=>Bp .add m y λC=>Bp .add e (I 1) λD=>KS [c,k]<|q C D f) (R (.tuple #[m,(I 0)]) f))) (λJ13=>Lnl c λE=>Bp .gtr E (I 258) λF=>Vif F (KS [c]<|J13 (.bool true) w) (Cl P 235 #[c,(I 0),(I 20)] w λG J=>Up .not G λL=>KS [c]<|J13 L J))
theorem Tz201 (h:Vz201 prog a0 w R):Cl prog 201 #[a0] w R:=
 tz 28 [(.tmp 2),(.tmp 3)] (s z (s (j [14] [0] z (i (s z z) z)) (s z (s (s z (b (l [4,17] [15,16] (s z (s (i z z) (s (b (s z z)) z)))))) (s z z))))) [a0] func201 h
def Vz202:VT2:=λP c e w R=>
 Cl P 141 #[c,e] w λf g=>Bp .geq f (I 0) λk=>R k g
theorem Tz202 (h:Vz202 prog a0 a1 w R):Cl prog 202 #[a0,a1] w R:=
 tz 9 [(.tmp 4)] (s z (s z z)) [a0,a1] func202 h
def Vz203:VT1:=λP c w R=>
 Bv .lss c (I 200) (R (I 2) w) (Bv .lss c (I 600) (R (I 3) w) (Bv .lss c (I 1200) (R (I 4) w) (Bv .lss c (I 2400) (R (I 5) w) (R (I 6) w))))
theorem Tz203 (h:Vz203 prog a0 w R):Cl prog 203 #[a0] w R:=
 tz 11 [(.tmp 2)] (s z (s (s z (i (s z z) z)) (s (s z (i (s z z) z)) (s (s z (i (s z z) z)) (s (s z (i (s z z) z)) (s z z)))))) [a0] func203 h
def Vz204:VT2:=λP c g w R=>
 Lnl c λk=>VLoop 2 [(I 0),(I 0)] w λ_ p m e f=>Bv .lss e k (Ias 1 c e λq=>Ld q f λt=>Bv .eql g t (Bp .add m (I 1) λu=>Bp .add e (I 1) λv=>KS [g,c,k]<|p u v f) (Bp .add e (I 1) λy=>KS [g,c,k]<|p m y f)) (R m f)
theorem Tz204 (h:Vz204 prog a0 a1 w R):Cl prog 204 #[a0,a1] w R:=
 tz 21 [(.tmp 4)] (s z (s z (s (s z (b (l [5,10] [1,8,9] (s z (s (i z z) (s (b (s z (s z (i z z)))) z)))))) (s z z)))) [a0,a1] func204 h
def Vz205:VT2:=λP f e w R=>
 Lnl e λg=>VLoop 2 [(I 0),(I 0)] w λ_ y m c k=>Bv .lss c g (Ias 1 e c λC=>Ld C k λp=>Cl P 204 #[f,c] k λq D=>VLoop 2 [m,(I 0)] D λ_ E t u v=>Bv .lss u q (Bp .add t p λF=>Cl P 236 #[F] v λG J=>Bp .add u (I 1) λL=>KS [f,p,e,g,c,q]<|E G L J) (Bp .add c (I 1) λM=>KS [f,e,g]<|y t M v)) (R m k)
theorem Tz205 (h:Vz205 prog a0 a1 w R):Cl prog 205 #[a0,a1] w R:=
 tz 27 [(.tmp 4)] (s z (s z (s (s z (b (l [5,10] [0,8,9] (s z (s (i z z) (s (b (s z (s z (b (l [5,18] [0,7,8,9,10,17] (s z (s (i z z) (s (b z) z)))))))) z)))))) (s z z)))) [a0,a1] func205 h
def Vz206:VT1:=λP k w R=>
 Lnl k λm=>Lnl k λD=>VLoop 2 [(.slice none 0 0),(I 0)] w λ_ Y E e u=>Bv .lss e D (Ias 1 k e λZ=>Ld Z u λa0=>Bs P 69 1 #[(0,e)] u λa1 F=>Bd P 285 #[(0,a0),(1,e),(2,a1)] F λa2=>Bs P 283 1 #[(0,a2)] F λa3 a4=>Ap P #[283,283] 283 #[E,a3] a4 λa5 a6=>Bp .add e (I 1) λa7=>KS [m,k,D]<|Y a5 a7 a6) (Ms P 69 m m u λf a8=>VLoop 2 [E,m] a8 λ_ a9 p v G=>Lnl p λb0=>Bp .gtr b0 (I 1) λb1=>Vif b1 (Cl P 237 #[p] G λJ L=>Ias 3 p J λb2=>LdA 3 b2 L λb3=>New (zeroP P 285) 285 L λq b4=>StA 3 q b3 b4 λb5=>Cl P 238 #[p,J] b5 λy b6=>Cl P 237 #[y] b6 λM N=>Ias 3 y M λb7=>LdA 3 b7 N λb8=>New (zeroP P 285) 285 N λt b9=>StA 3 t b8 b9 λc0=>Cl P 238 #[y,M] c0 λO Q=>Fo 2 q λc1=>Ld c1 Q λc2=>Ap P #[69,69] 69 #[(.slice none 0 0),c2] Q λc3 S=>Fo 2 t λc4=>Ld c4 S λc5=>Ap P #[69,69] 69 #[c3,c5] S λg c6=>Lnl g λU=>VLoop 1 [(I 0)] c6 λ_ c7 C c=>Bv .lss C U (Ias 1 g C λc8=>Ld c8 c λW=>Ias 1 f W λc9=>Ld c9 c λd0=>Bp .add d0 (I 1) λd1=>Ias 1 f W λd2=>St d2 d1 c λd3=>Bp .add C (I 1) λd4=>KS [O,f,v,q,t,g,g,U]<|c7 d4 d3) (Fo 0 q λd5=>Ld d5 c λd6=>Fo 0 t λd7=>Ld d7 c λd8=>Bp .add d6 d8 λd9=>Bd P 285 #[(0,d9),(1,v),(2,g)] c λe0=>Bs P 283 1 #[(0,e0)] c λe1 e2=>Ap P #[283,283] 283 #[O,e1] e2 λe3 e4=>Bp .add v (I 1) λe5=>KS [f]<|a9 e3 e5 e4)) (R f G))
theorem Tz206 (h:Vz206 prog a0 w R):Cl prog 206 #[a0] w R:=
 tz 93 [(.tmp 2)] (s z (s z (s z (s (s z (b (l [4,20] [3,18,19] (s z (s (i z z) (s (b (s z z)) z)))))) (s z (s z (s (b (l [4,8] [7] (s (s z (i z z)) (b (s z (s z (s z (s z (s z (s z (s z (s z (s z (s (s z (b (l [68] [4,7,8,10,12,13,66,67] (s z (s (i z z) (s (b (s z z)) z)))))) (s z z))))))))))))))) (s z z)))))))) [a0] func206 h
def Vz207:VT3:=λP c f g w R=>
 Lnl c λk=>VLoop 1 [(I 0)] w λ_ t e m=>Bv .lss e k (Ias 1 c e λu=>Ld u m λp=>VJoin 1 (λ_ v q=>Vif v (R (.bool false) q) (Bp .add e (I 1) λy=>KS [f,g,c,k]<|t y q)) (λJ9=>Bp .lss p f λC=>Vif C (KS [f,g,c,k,e]<|J9 (.bool true) m) (Bp .gtr p g λD=>KS [f,g,c,k,e]<|J9 D m))) (R (.bool true) m)
theorem Tz207 (h:Vz207 prog a0 a1 a2 w R):Cl prog 207 #[a0,a1,a2] w R:=
 tz 24 [(.tmp 6)] (s z (s (s z (b (l [11] [1,2,9,10] (s z (s (i z z) (s (b (s z (j [22] [1,2,9,10,11] z (i (s z z) z)))) z)))))) (s z z))) [a0,a1,a2] func207 h
def Vz208:VT1:=λP c w R=>
 Lnl c λf=>VLoop 2 [(.slice none 0 0),(I 0)] w λ_ p g e k=>Bv .lss e f (Ias 1 c e λq=>Ld q k λm=>VJoin 1 (λ_ t u=>Bp .quo t (I 2) λv=>Bp .add v (I 1) λy=>Bs P 69 1 #[(0,y)] u λC D=>Ap P #[69,69] 69 #[g,C] D λE F=>Bp .add e (I 1) λG=>KS [c,f]<|p E G F) (λJ14=>Bp .lss m (I 0) λJ=>Vif J (KS [g,c,f,e]<|J14 (I 0) k) (KS [g,c,f,e]<|J14 m k))) (R g k)
theorem Tz208 (h:Vz208 prog a0 w R):Cl prog 208 #[a0] w R:=
 tz 22 [(.tmp 2)] (s z (s z (s (s z (b (l [3,8] [6,7] (s z (s (i z z) (s (b (s z (j [5] [3,6,7,8] (s z (i z z)) z))) z)))))) (s z z)))) [a0] func208 h
def Vz209:VT2:=λP c e w R=>
 Bn P 90 false c (.pointer none) λt=>Vif t (R (.tuple #[(.int .u32 0),(I 7)]) w) (VJoin 1 (λ_ u g=>Vif u (R (.tuple #[(.int .u32 0),(I 1)]) g) (Cl P 74 #[c] g λv k=>Bv .lss v e (R (.tuple #[(.int .u32 0),(I 3)]) k) (VLoop 2 [(.int .u32 0),(I 0)] k λ_ y m p f=>Bv .lss p e (Bp .shl m (.int .u64 1) λC=>Nc c<|Fo 2 c λD=>Ld D f λE=>Cl P 239 #[c,E] f λF q=>Bp .or C F λG=>Nc c<|Fo 2 c λJ=>Ld J q λL=>Bp .add L (I 1) λM=>Nc c<|Fo 2 c λN=>St N M q λO=>Bp .add p (I 1) λQ=>KS [c,e]<|y G Q O) (R (.tuple #[m,(I 0)]) f)))) (λJ19=>Bp .lss e (I 0) λS=>Vif S (KS [c,e]<|J19 (.bool true) w) (Bp .gtr e (I 32) λU=>KS [c,e]<|J19 U w)))
theorem Tz209 (h:Vz209 prog a0 a1 w R):Cl prog 209 #[a0,a1] w R:=
 tz 43 [(.tmp 4),(.tmp 5)] (s z (s (b (s z (i (s z z) (j [10] [0,1] z (i (s z z) (s z (i (s z z) z))))))) (s z (s (s z (b (l [6,23] [0,22] (s z (s (i z z) (s (b (s z z)) z)))))) (s z z))))) [a0,a1] func209 h
def Vz210:VT1:=λP c w R=>
 Cl P 25 #[c] w λm p=>Cl P 240 #[c] p λf g=>Ex f 0 λk=>Ex f 1 λe=>Bv .neq e (I 0) (Cl P 60 #[c,m] g λt q=>R (.tuple #[k,e]) q) (R (.tuple #[k,e]) g)
theorem Tz210 (h:Vz210 prog a0 w R):Cl prog 210 #[a0] w R:=
 tz 21 [(.tmp 2),(.tmp 3)] (s z (s z (s z (s (s z (i z z)) (s z z))))) [a0] func210 h
def Vz211:VT2:=λP c m w R=>
 Lns c λp=>Bp .add p (I 2) λq=>Cl P 241 #[q] w λe t=>Ex e 0 λu=>Ex e 1 λJ=>Lns c λv=>Cl P 242 #[v,m] t λf y=>Ex f 0 λC=>Ex f 1 λL=>Cl P 89 #[c] y λg k=>Ex g 0 λD=>Ex g 1 λM=>Bd P 269 #[(0,u),(1,C),(2,D)] k λE=>New E 269 k λF G=>R F G
theorem Tz211 (h:Vz211 prog a0 a1 w R):Cl prog 211 #[a0,a1] w R:=
 tz 35 [(.tmp 4)] (s z (s z (s z (s z (s z z))))) [a0,a1] func211 h
def Vz212:VT2:=λP c e w R=>
 Bn P 206 false c (.pointer none) λg=>Vif g (R (.tuple #[(.int .u8 0),(I 7)]) w) (VJoin 1 (λ_ k f=>Vif k (R (.tuple #[(.int .u8 0),(I 1)]) f) (Cl P 140 #[c,e] f λm p=>R (.tuple #[m,(I 0)]) p)) (λJ4=>Bv .lss e (I 0) (KS [c,e]<|J4 (.bool true) w) (Nc c<|Fo 0 c λq=>Ld q w λt=>Lnl t λu=>Bp .geq e u λv=>KS [c,e]<|J4 v w)))
theorem Tz212 (h:Vz212 prog a0 a1 w R):Cl prog 212 #[a0,a1] w R:=
 tz 24 [(.tmp 4),(.tmp 5)] (s z (s (b (s z (i (s z z) (j [9] [0,1] z (i (s z z) z))))) (s z z))) [a0,a1] func212 h
def Vz213:VT2:=λP c e w R=>
 VJoin 1 (λ_ D f=>Vif D (R (.tuple #[(I 0),(I 7)]) f) (Nc c<|Fo 7 c λE=>Ld E f λF=>Bv .neq F (I 0) (Dr f λu=>Nc c<|Fo 7 c λG=>Ld G u λJ=>R (.tuple #[(I 0),J]) u) (Mf P (.func 243) #[c] #[] f λL=>VJoin 1 (λ_ M N=>Inv P (do let d <-Deferred.ofValue M #[e];invoke d.target d.args) N λv m=>Ex v 0 λO=>Ex v 1 λg=>Bv .eql g (I 0) (R (.tuple #[O,g]) m) (Bv .neq g (I 3) (Nc c<|Fo 7 c λQ=>St Q g m λS=>R (.tuple #[(I 0),g]) S) (R (.tuple #[(I 0),g]) m))) (λJ16=>Nc c<|Fo 1 c λU=>Ld U f λW=>Cl P 244 #[W] f λY p=>Up .not Y λZ=>Vif Z (Mf P (.func 245) #[c] #[] p λa0=>KS [c,e]<|J16 a0 p) (Dr p λq=>Nc c<|Fo 4 c λy=>Ld y q λt=>Lnl t λC=>Nc c<|Fo 1 c λa1=>Ld a1 q λa2=>Cl P 246 #[a2] q λa3 k=>Rk (λw K=>Lnl t λa4=>K a4) C k<|Rk (λw K=>Ld y w λa5=>K a5) t k<|Bv .lss C a3 (Mf P (.func 247) #[c] #[] k λa6=>KS [c,e]<|J16 a6 k) (KS [c,e]<|J16 L k)))))) (λJ33=>Bn P 296 false c (.pointer none) λa7=>Vif a7 (KS [c,e]<|J33 (.bool true) w) (Bn P 90 false e (.pointer none) λa8=>Vif a8 (KS [c,e]<|J33 (.bool true) w) (Nc c<|Fo 6 c λa9=>Ld a9 w λb0=>KS [c,e]<|J33 b0 w)))
theorem Tz213 (h:Vz213 prog a0 a1 w R):Cl prog 213 #[a0,a1] w R:=
 tz 74 [(.tmp 4),(.tmp 5)] (s z (s (b (j [9] [0,1] z (i (s z z) (s z (i (s (r (.staged [0,1,3,7,0,31])) z) z))))) (s z (j [6] [0,1] (b (s z (i z (s (r (.staged [0,1,3,7,15,0,32,96,224,480,1023,2047])) (i z z))))) (s z (s (s z (i (s z z) z)) (s (s z (i z z)) (s z z)))))))) [a0,a1] func213 h
def Vz214:VT2:=λP c k w R=>
 Nc c<|Fo 1 c λm=>Ld m w λp=>Cl P 248 #[p,k] w λe f=>Ex e 0 λq=>Ex e 1 λt=>Ex e 2 λu=>Bv .neq u (I 0) (R (I 25) f) (Nc c<|Fo 3 c λv=>St v q f λg=>Bmax P #[3,3] 3 #[t,(I 0)] g λy=>Nc c<|Fo 4 c λC=>St C y g λD=>R (I 0) D)
theorem Tz214 (h:Vz214 prog a0 a1 w R):Cl prog 214 #[a0,a1] w R:=
 tz 29 [(.tmp 4)] (s z (s z (s (s z (i (s z z) z)) (s z (s z (s z z)))))) [a0,a1] func214 h
def Vz215:VT1:=λP c w R=>
 Bn P 296 true c (.pointer none) λe=>Vif e (Nc c<|Fo 6 c λf=>Ld f w λg=>R g w) (R (.bool false) w)
theorem Tz215 (h:Vz215 prog a0 w R):Cl prog 215 #[a0] w R:=
 tz 11 [(.tmp 2)] (s z (s z z)) [a0] func215 h
def Vz216:VT1:=λP c w R=>
 Nc c<|Fo 1 c λm=>LdA 256 m w λf=>VLoop 2 [(I 0),(I 0)] w λ_ p g e k=>Bv .lss e (I 256) (Ixa 256 1 false f e λq=>Nc c<|Fo 1 c λt=>Iaa 256 1 t e λu=>St u g k λv=>Bp .add g q λy=>Bp .add e (I 1) λC=>KS [c,f]<|p y C v) (R (.tuple #[]) k)
theorem Tz216 (h:Vz216 prog a0 w R):Cl prog 216 #[a0] w R:=
 tz 23 [] (s z (s z (b (l [2,9] [0,8] (s z (s (i z z) (s (b (s z (s z z))) z))))))) [a0] func216 h
def Vz217:VT3:=λP c e f w R=>
 Bp .shl e (.int .u64 8) λg=>Bp .shr e (.int .u64 24) λk=>Ci .u8 k λm=>Bp .xor m f λp=>Nc c<|Iaa 256 1 c p λq=>Ld q w λt=>Bp .xor g t λu=>R u w
theorem Tz217 (h:Vz217 prog a0 a1 a2 w R):Cl prog 217 #[a0,a1,a2] w R:=
 tz 19 [(.tmp 6)] (s z (s z z)) [a0,a1,a2] func217 h
def Vz218:VT1:=λP c w R=>
 VLoop 0 [] w λ_ g e=>VJoin 1 (λ_ k f=>Vif k (Nc c<|Fo 2 c λm=>Ld m f λp=>Bp .add p (I 1) λq=>Nc c<|Fo 2 c λt=>St t q f λu=>KS [c]<|g u) (R (.tuple #[]) f)) (λJ7=>Bn P 90 true c (.pointer none) λv=>Vif v (Nc c<|Fo 2 c λy=>Ld y e λC=>Bp .rem C (I 8) λD=>Bp .neq D (I 0) λE=>KS [c]<|J7 E e) (KS [c]<|J7 (.bool false) e))
theorem Tz218 (h:Vz218 prog a0 w R):Cl prog 218 #[a0] w R:=
 tz 19 [] (b (l [] [0] (s (j [11] [0] z (i z z)) (b z)))) [a0] func218 h
def Vz219:VT1:=λP c w R=>
 Nc c<|Fo 0 c λg=>LdA 2 g w λk=>Cl P 249 #[k] w λe f=>Ex e 0 λm=>Ex e 1 λu=>Bd P 86 #[] f λp=>Nc c<|Fo 0 c λq=>StA 2 q p f λt=>R m t
theorem Tz219 (h:Vz219 prog a0 w R):Cl prog 219 #[a0] w R:=
 tz 18 [(.tmp 2)] (s z (s z (s z (s z z)))) [a0] func219 h
def Vz220:VT2:=λP c y w R=>
 New y 86 w λe k=>LdA 2 e k λC=>Cl P 249 #[C] k λm p=>Ex m 0 λD=>Ex m 1 λa7=>Nc c<|Fo 0 c λE=>Ld E p λF=>Ap P #[54,9] 54 #[F,D] p λG J=>Nc c<|Fo 0 c λL=>St L G J λM=>Dr M λf=>Nc c<|Fo 2 c λN=>Ld N f λO=>Fo 1 e λQ=>Ld Q f λS=>Bp .add O S λU=>Nc c<|Fo 2 c λW=>St W U f λq=>Fo 1 e λY=>Ld Y q λt=>VLoop 1 [(I 0)] q λ_ Z u v=>Bp .lss u t λa0=>Vif a0 (Dr v λg=>Nc c<|Fo 1 c λa1=>Ld a1 g λa2=>Fo 0 e λa3=>Ld a3 g λa4=>Cl P 170 #[a2,a4] g λa8 a5=>Bp .add u (I 1) λa6=>KS [c,e,t]<|Z a6 a5) (R (.tuple #[]) v)
theorem Tz220 (h:Vz220 prog a0 a1 w R):Cl prog 220 #[a0,a1] w R:=
 tz 41 [] (s z (s z (s z (s (r (.staged [0,1,3,7,0,16,63,127,255,511])) (s z (b (l [31] [0,3,30] (s z (s (i z z) (s (b (r (.staged [0,1,3,7,0,16,63]))) z)))))))))) [a0,a1] func220 h
def Vz221:VT1:=λP c w R=>
 Bn P 233 true c (.pointer none) λe=>Vif e (Nc c<|Fo 256 c λf=>St f (.int .u32 4294967295) w λg=>R (.tuple #[]) g) (R (.tuple #[]) w)
theorem Tz221 (h:Vz221 prog a0 w R):Cl prog 221 #[a0] w R:=
 tz 7 [] (s z (i z z)) [a0] func221 h
def Vz222:VT1:=λP c w R=>
 Nc c<|Fo 5 c λm=>Ld m w λp=>Lnl p λq=>Bp .sub q (I 1) λe=>VJoin 1 (λ_ t f=>Vif t (R (.tuple #[]) f) (Nc c<|Fo 5 c λu=>Ld u f λv=>Ias 3 v e λy=>LdA 3 y f λC=>Nc c<|Fo 6 c λD=>StA 3 D C f λg=>Nc c<|Fo 5 c λE=>Ld E g λF=>Ssl 3 F none (some e) λG=>Nc c<|Fo 5 c λJ=>St J G g λL=>Nc c<|Fo 9 c λM=>St M (I 0) L λN=>Nc c<|Fo 10 c λO=>St O (I 0) N λk=>Nc c<|Fo 6 c λQ=>Fo 1 Q λS=>Ld S k λU=>Nc c<|Fo 11 c λW=>St W U k λY=>R (.tuple #[]) Y)) (λJ21=>Bp .lss e (I 0) λZ=>Vif Z (KS [c,e]<|J21 (.bool true) w) (Nc c<|Fo 6 c λa0=>Fo 2 a0 λa1=>Ld a1 w λa2=>Bv .gtr a2 (I 0) (KS [c,e]<|J21 (.bool true) w) (Nc c<|Fo 5 c λa3=>Ld a3 w λa4=>Ias 3 a4 e λa5=>Fo 1 a5 λa6=>Ld a6 w λa7=>Bp .eql a7 (I 0) λa8=>KS [c,e]<|J21 a8 w)))
theorem Tz222 (h:Vz222 prog a0 w R):Cl prog 222 #[a0] w R:=
 tz 63 [] (s z (s (j [29] [0,2] z (i z z)) (s z (s z (s z (s z z)))))) [a0] func222 h
def Vz223:VT1:=λP c w R=>
 Dr w λe=>Nc c<|Fo 3 c λg=>Ld g e λk=>Nc c<|Fo 9 c λm=>Ld m e λp=>Nc c<|Fo 1 c λq=>Ld q e λt=>Nc c<|Fo 6 c λu=>Fo 0 u λv=>Ld v e λy=>Nc c<|Fo 9 c λC=>Ld C e λD=>Bp .add y D λE=>Ias 1 t E λF=>Ld F e λG=>Ias 1 k p λJ=>St J G e λf=>Nc c<|Fo 9 c λL=>Ld L f λM=>Bp .add M (I 1) λN=>Nc c<|Fo 9 c λO=>St O N f λQ=>R (.tuple #[]) Q
theorem Tz223 (h:Vz223 prog a0 w R):Cl prog 223 #[a0] w R:=
 tz 34 [] (s (r (.staged [0,1,3,7,0,16,48,112,0,256,768,1792,0,4096,12288,28672,61440,0,131072,393216,917504,2093056,4194048,8388352,16777215,33554431])) z) [a0] func223 h
def Vz224:VT1:=λP c w R=>
 Nc c<|Fo 6 c λy=>LdA 3 y w λC=>New (zeroP P 248) 248 w λf D=>StA 3 f C D λE=>Dr E λk=>Fo 0 f λF=>Ld F k λG=>Nc c<|Fo 10 c λJ=>Ld J k λL=>Bp .add G L λM=>Nc c<|Fo 11 c λN=>Ld N k λO=>Bp .add M O λQ=>Fo 1 f λS=>Ld S k λU=>Bp .sub Q U λg=>VJoin 0 (λ_ q=>Fo 2 f λW=>Ld W q λY=>Bp .sub Y (I 1) λZ=>Bp .eql g Z λa0=>Vif a0 (Bd P 248 #[] q λa1=>Nc c<|Fo 6 c λa2=>StA 3 a2 a1 q λa3=>R (.tuple #[]) a3) (R (.tuple #[]) q)) (λJ25=>VJoin 1 (λ_ a4 t=>Vif a4 (Dr t λm=>Nc c<|Fo 1 c λa5=>Ld a5 m λa6=>Nc c<|Fo 3 c λa7=>Ld a7 m λa8=>Nc c<|Fo 10 c λa9=>Ld a9 m λb0=>Ias 1 a8 b0 λb1=>Ld b1 m λb2=>Ias 1 a6 g λb3=>St b3 b2 m λu=>Nc c<|Fo 10 c λb4=>Ld b4 u λb5=>Bp .add b5 (I 1) λb6=>Nc c<|Fo 10 c λb7=>St b7 b6 u λb8=>KS [c,f,g]<|J25 b8) (Dr t λp=>Nc c<|Fo 1 c λb9=>Ld b9 p λc0=>Nc c<|Fo 1 c λc1=>Ld c1 p λc2=>Nc c<|Fo 11 c λc3=>Ld c3 p λc4=>Ias 1 c2 c4 λc5=>Ld c5 p λc6=>Ias 1 c0 g λc7=>St c7 c6 p λv=>Nc c<|Fo 11 c λc8=>Ld c8 v λc9=>Bp .add c9 (I 1) λd0=>Nc c<|Fo 11 c λd1=>St d1 d0 v λd2=>KS [c,f,g]<|J25 d2)) (λJ61=>Dr k λe=>Nc c<|Fo 11 c λd3=>Ld d3 e λd4=>Fo 2 f λd5=>Ld d5 e λd6=>Bp .eql d4 d6 λd7=>Vif d7 (KS [c,f,g]<|J61 (.bool true) e) (Nc c<|Fo 10 c λd8=>Ld d8 e λd9=>Nc c<|Fo 9 c λe0=>Ld e0 e λe1=>Bv .lss d9 e1 (Nc c<|Fo 3 c λe2=>Ld e2 e λe3=>Nc c<|Fo 10 c λe4=>Ld e4 e λe5=>Ias 1 e3 e5 λe6=>Ld e6 e λe7=>Nc c<|Fo 1 c λe8=>Ld e8 e λe9=>Nc c<|Fo 11 c λf0=>Ld f0 e λf1=>Ias 1 e9 f1 λf2=>Ld f2 e λf3=>Cl P 250 #[c,e7,f3] e λf4 f5=>Up .not f4 λf6=>KS [c,f,g]<|J61 f6 f5) (KS [c,f,g]<|J61 (.bool false) e))))
theorem Tz224 (h:Vz224 prog a0 w R):Cl prog 224 #[a0] w R:=
 tz 121 [] (s z (s (r (.staged [0,1,0,4,12,28,63,0,128,384,896,2047,0,4096,16383,32767])) (j [] [0,2,3] (j [65] [0,2,3] (r (.staged [0,1,3,7,0,16,63,127,255,511,1023,2047,255,4351,12543,28927,65535,131071,262143,262143,786431,1835007,3932159,262143,8650751,25427967,58982399,133955583,268173311,262143,537133055,1610874879,3758358527,262143,8590196735,25770065919,60129804287,136902344703,274341298175,549755813887,1099511627775,2199023255551,4398046511103])) (i (s (r (.staged [0,1,3,7,0,0,32,96,224,0,512,1536,3584,8160,16352,32767,65535])) z) (s (r (.staged [0,1,3,7,0,0,32,96,224,0,512,1536,3584,8160,16352,32767,65535])) z))) (s z (i z z))))) [a0] func224 h
def Vz225:VT1:=λP c w R=>
 Dr w λm=>Nc c<|Fo 5 c λu=>Ld u m λv=>Nc c<|Fo 5 c λy=>Ld y m λp=>Lnl p λC=>Bp .sub C (I 1) λL=>Ias 3 v L λD=>LdA 3 D m λE=>New (zeroP P 248) 248 m λe k=>Rk (λw K=>LdA 3 D w λM=>K M) E k<|Rk (λw K=>Lnl p λN=>K N) C k<|Rk (λw K=>Ld y w λO=>K O) p k<|Rk (λw K=>Ld u w λQ=>K Q) v k<|StA 3 e E k λS=>Dr S λq=>Nc c<|Fo 5 c λU=>Ld U q λW=>Nc c<|Fo 5 c λY=>Ld Y q λZ=>Lnl Z λa0=>Bp .sub a0 (I 1) λa1=>Ssl 3 W none (some a1) λa2=>Nc c<|Fo 5 c λa3=>St a3 a2 q λg=>Fo 2 e λa4=>Ld a4 g λa5=>Fo 0 e λa6=>Ld a6 g λa7=>Bp .sub a5 a7 λa8=>Bp .lss a8 (I 2) λa9=>Vif a9 (R (.tuple #[]) g) (Fo 0 e λb0=>Ld b0 g λb1=>Fo 2 e λb2=>Ld b2 g λb3=>Bp .add b1 b3 λb4=>Bp .quo b4 (I 2) λt=>Dr g λf=>Nc c<|Fo 5 c λF=>Ld F f λG=>Fo 0 e λb5=>Ld b5 f λb6=>Fo 2 e λb7=>Ld b7 f λb8=>Bd P 248 #[(0,b6),(1,t),(2,b8)] f λb9=>Fo 2 e λc0=>Ld c0 f λc1=>Bd P 248 #[(0,t),(2,c1)] f λc2=>Fo 0 e λc3=>Ld c3 f λc4=>Bd P 248 #[(0,c4),(2,t)] f λc5=>Bs P 246 3 #[(0,b9),(1,c2),(2,c5)] f λc6 J=>Rk (λw K=>Ld F w λc7=>K c7) G J<|Ap P #[246,246] 246 #[G,c6] J λc8 c9=>Nc c<|Fo 5 c λd0=>St d0 c8 c9 λd1=>R (.tuple #[]) d1)
theorem Tz225 (h:Vz225 prog a0 w R):Cl prog 225 #[a0] w R:=
 tz 65 [] (s (r (.staged [0,1,3,7,0,16,48,112,240,496,1023,2047,0,8191])) (s (r (.staged [0,0,2,6,14,0,32,96,224,480,992,2046,4095,8191,16383])) (s (s z (i z z)) (s z (r (.staged [0,0,2,6,14,0,32,0,0,256,992,0,0,4096,14336,0,32768,0,229376,524256,1048574,2097151,4194303,8388607])))))) [a0] func225 h
def Vz226:VT1:=λP c w R=>
 Nc c<|Fo 12 c λq=>Ld q w λe=>VJoin 0 (λ_ t=>Dr t λf=>Nc c<|Fo 3 c λu=>Ld u f λv=>Nc c<|Fo 1 c λy=>Ld y f λC=>Ias 1 C e λD=>Ld D f λE=>Nc c<|Fo 13 c λF=>Ld F f λG=>Ias 1 v E λJ=>St J G f λp=>Nc c<|Fo 12 c λL=>Ld L p λM=>Bp .add M (I 1) λN=>Nc c<|Fo 12 c λO=>St O N p λQ=>Dr Q λk=>Nc c<|Fo 12 c λS=>Ld S k λU=>Nc c<|Fo 1 c λW=>Ld W k λY=>Lnl Y λZ=>Bp .eql U Z λa0=>Vif a0 (Cl P 251 #[c] k λb9 a1=>R (.tuple #[]) a1) (R (.tuple #[]) k)) (λJ30=>Bv .eql e (I 0) (Nc c<|Fo 13 c λa2=>St a2 (I 0) w λa3=>KS [c,e]<|J30 a3) (Dr w λg=>Nc c<|Fo 1 c λa4=>Ld a4 g λa5=>Ias 1 a5 e λa6=>Ld a6 g λa7=>Nc c<|Fo 1 c λa8=>Ld a8 g λa9=>Bp .sub e (I 1) λb0=>Ias 1 a9 b0 λb1=>Ld b1 g λb2=>Cl P 250 #[c,a7,b2] g λb3 m=>Vif b3 (Nc c<|Fo 13 c λb4=>Ld b4 m λb5=>Bp .add b5 (I 1) λb6=>Nc c<|Fo 13 c λb7=>St b7 b6 m λb8=>KS [c,e]<|J30 b8) (KS [c,e]<|J30 m)))
theorem Tz226 (h:Vz226 prog a0 w R):Cl prog 226 #[a0] w R:=
 tz 73 [] (s z (j [] [0,2] (b (s z (i z (s (r (.staged [0,0,2,6,14,0,62,126,0,256,768,1792,0,4096,16128,32512,65535,131071])) (i z z))))) (s (r (.staged [0,1,3,7,0,16,48,112,0,496,1008,0,2048,6144,14336,32767,65535])) (s z (s (r (.staged [0,1,3,7,0,16,48,112,240,511])) (i z z)))))) [a0] func226 h
def Vz227:VT1:=λP e w R=>
 LdA 4 (.pointer (some ⟨1,0,none⟩)) w λf=>VLoop 2 [(I 2),(I 0)] w λ_ m g c k=>Bv .lss c (I 4) (Ixa 4 1 false f c λp=>Bv .geq e p (Bp .add g (I 1) λq=>Bp .add c (I 1) λt=>KS [e,f]<|m q t k) (Bp .add c (I 1) λu=>KS [e,f]<|m g u k)) (R g k)
theorem Tz227 (h:Vz227 prog a0 w R):Cl prog 227 #[a0] w R:=
 tz 17 [(.tmp 2)] (s z (s z (s (s z (b (l [3,7] [0,6] (s z (s (i z z) (s (b (s z (s z (i z z)))) z)))))) (s z z)))) [a0] func227 h
def Vz228:VT2:=λP f e w R=>
 Lnl e λg=>VLoop 3 [(I 0),(I 1099511627776),(I 0)] w λ_ m p q c k=>Bv .lss c g (Ias 1 e c λy=>Ld y k λC=>Cl P 150 #[f,C] k λt u=>Ex t 0 λv=>Ex t 1 λF=>Bv .lss v q (Bp .add c (I 1) λD=>KS [f,e,g]<|m c v D u) (Bp .add c (I 1) λE=>KS [f,e,g]<|m p q E u)) (R p k)
theorem Tz228 (h:Vz228 prog a0 a1 w R):Cl prog 228 #[a0,a1] w R:=
 tz 31 [(.tmp 4)] (s z (s z (s (s z (b (l [5,6,13] [0,11,12] (s z (s (i z z) (s (b (s z (s z (s z (i z z))))) z)))))) (s z z)))) [a0,a1] func228 h
def Vz229:VT2:=λP c e w R=>
 VJoin 1 (λ_ v m=>Vif v (R (.tuple #[(.slice none 0 0),(I 1)]) m) (Lnl c λp=>Ms P 69 p p m λg y=>Lnl g λq=>VLoop 1 [(I 0)] y λ_ C f t=>Bv .lss f q (Dr t λk=>Ias 1 c f λD=>Ld D k λE=>Ias 1 e f λF=>Ld F k λG=>Cl P 200 #[E,G] k λJ L=>Ias 1 g f λM=>St M J L λN=>Bp .add f (I 1) λO=>KS [c,e,g,q]<|C O N) (R (.tuple #[g,(I 0)]) t))) (λJ17=>Lnl c λQ=>Lnl e λS=>Bp .neq Q S λU=>Vif U (KS [c,e]<|J17 (.bool true) w) (Cl P 199 #[c] w λW u=>Up .not W λY=>Vif Y (KS [c,e]<|J17 (.bool true) u) (Cl P 199 #[e] u λZ a0=>Up .not Z λa1=>KS [c,e]<|J17 a1 a0)))
theorem Tz229 (h:Vz229 prog a0 a1 w R):Cl prog 229 #[a0,a1] w R:=
 tz 45 [(.tmp 4),(.tmp 5)] (s z (s (j [22] [0,1] z (i (s z z) z)) (s z (s (s z (b (l [28] [0,1,6,27] (s z (s (i z z) (s (b (s z (r (.staged [0,0,0,0,12,28,0,0,192,448,1020,2047,4095])))) z)))))) (s z z))))) [a0,a1] func229 h
def Vz230:VT1:=λP c w R=>
 VJoin 1 (λ_ v k=>Vif v (R (.tuple #[(.slice none 0 0),(I 1)]) k) (Lnl c λm=>Ms P 69 m m k λg y=>Lnl c λp=>VLoop 1 [(I 0)] y λ_ C e f=>Bv .lss e p (Ias 1 c e λD=>Ld D f λE=>Bmax P #[3,3] 3 #[E,(I 1)] f λF=>Ias 1 g e λG=>St G F f λJ=>Bp .add e (I 1) λL=>KS [g,c,p]<|C L J) (VLoop 1 [g] f λ_ M q N=>Cl P 252 #[q] N λt O=>Cl P 253 #[t] O λQ u=>Bp .leq Q (I 20) λS=>Vif S (Cl P 153 #[t] u λU W=>R (.tuple #[U,(I 0)]) W) (Cl P 254 #[q] u λY Z=>KS []<|M Y Z)))) (λJ20=>Lnl c λa0=>Bv .lss a0 (I 3) (KS [c]<|J20 (.bool true) w) (Lnl c λa1=>Bv .gtr a1 (I 258) (KS [c]<|J20 (.bool true) w) (Cl P 235 #[c,(I 0),(I 1099511627776)] w λa2 a3=>Up .not a2 λa4=>KS [c]<|J20 a4 a3)))
theorem Tz230 (h:Vz230 prog a0 w R):Cl prog 230 #[a0] w R:=
 tz 46 [(.tmp 2),(.tmp 3)] (s z (s (j [20] [0] z (i (s z z) z)) (s z (s (s z (b (l [26] [4,24,25] (s z (s (i z z) (s (b (s z z)) z)))))) (b (l [4] [] (b (s z (s (s z (i (s z z) z)) z))))))))) [a0] func230 h
def Vz231:VT2:=λP e g w R=>
 Lnl e λk=>VLoop 1 [(I 0)] w λ_ p c f=>Bv .lss c k (Ias 1 e c λq=>Ld q f λt=>Inv P (do let d <-Deferred.ofValue g #[t];invoke d.target d.args) f λu m=>Vif u (R c m) (Bp .add c (I 1) λv=>KS [e,g,k]<|p v m)) (R (I (-1)) f)
theorem Tz231 (h:Vz231 prog a0 a1 w R):Cl prog 231 #[a0,a1] w R:=
 tz 19 [(.tmp 4)] (s z (s (s z (b (l [8] [0,1,7] (s z (s (i z z) (s (b (s z (s z (i (s z z) z)))) z)))))) (s z z))) [a0,a1] func231 h
def Vz232:VT2:=λP c g w R=>
 Nc c<|Iaa 6 1 c g λp=>Ld p w λf=>VLoop 1 [g] w λ_ q e k=>Bv .gtr e (I 0) (Dr k λm=>Bp .sub e (I 1) λt=>Nc c<|Iaa 6 1 c t λu=>Ld u m λv=>Nc c<|Iaa 6 1 c e λy=>St y v m λC=>Bp .sub e (I 1) λD=>KS [c,f]<|q D C) (Nc c<|Iaa 6 1 c (I 0) λE=>St E f k λF=>R f F)
theorem Tz232 (h:Vz232 prog a0 a1 w R):Cl prog 232 #[a0,a1] w R:=
 tz 32 [(.tmp 4)] (s z (s z (s (s z (b (l [6] [0,5] (s (s z (i z z)) (s (b (r (.staged [0,0,0,0,8,4,60,124,1,511,1023]))) z))))) (s z (s z z))))) [a0,a1] func232 h
def Vz233:VT1:=λP c w R=>
 Cl P 234 #[c] w λe f=>Up .not e λg=>R g f
theorem Tz233 (h:Vz233 prog a0 w R):Cl prog 233 #[a0] w R:=
 tz 6 [(.tmp 2)] (s z (s z z)) [a0] func233 h
def Vz234:VT1:=λP c w R=>
 Bv .geq c (I 0) (Bp .leq c (I 1099511627776) λe=>R e w) (R (.bool false) w)
theorem Tz234 (h:Vz234 prog a0 w R):Cl prog 234 #[a0] w R:=
 tz 9 [(.tmp 2)] (s z (s z z)) [a0] func234 h
def Vz235:VT3:=λP e f g w R=>
 New f 3 w λk m=>New g 3 m λp c=>Mf P (.func 255) #[] #[k,p] c λq=>Cl P 191 #[e,q] c λt u=>Up .not t λv=>R v u
theorem Tz235 (h:Vz235 prog a0 a1 a2 w R):Cl prog 235 #[a0,a1,a2] w R:=
 tz 11 [(.tmp 6)] (s z (s z z)) [a0,a1,a2] func235 h
def Vz236:VT1:=λP c w R=>
 Bv .gtr c (I 1099511627776) (R (I 1099511627776) w) (R c w)
theorem Tz236 (h:Vz236 prog a0 w R):Cl prog 236 #[a0] w R:=
 tz 6 [(.tmp 2)] (s z (s (s z (i (s z z) z)) (s z z))) [a0] func236 h
def Vz237:VT1:=λP c w R=>
 Lnl c λf=>VLoop 2 [(I 0),(I 0)] w λ_ p g e k=>Bv .lss e f (Ias 3 c e λu=>LdA 3 u k λv=>New (zeroP P 285) 285 k λq y=>StA 3 q v y λC=>Dr C λm=>LdA 3 q m λD=>Ias 3 c g λE=>LdA 3 E m λF=>Cl P 256 #[D,F] m λG t=>Vif G (Bp .add e (I 1) λJ=>KS [c,c,f]<|p e J t) (Bp .add e (I 1) λL=>KS [c,c,f]<|p g L t)) (R g k)
theorem Tz237 (h:Vz237 prog a0 w R):Cl prog 237 #[a0] w R:=
 tz 22 [(.tmp 2)] (s z (s z (s (s z (b (l [3,8] [0,6,7] (s z (s (i z z) (s (b (s z (s (r (.staged [0,0,0,6,14,31])) (i z z)))) z)))))) (s z z)))) [a0] func237 h
def Vz238:VT2:=λP e f w R=>
 Lnl e λg=>VLoop 2 [(.slice none 0 0),(I 0)] w λ_ q k c m=>Bv .lss c g (Ias 3 e c λu=>LdA 3 u m λv=>New (zeroP P 285) 285 m λt y=>StA 3 t v y λp=>Bv .neq c f (LdA 3 t p λC=>Bs P 283 1 #[(0,C)] p λD E=>Ap P #[283,283] 283 #[k,D] E λF G=>Bp .add c (I 1) λJ=>KS [f,e,g]<|q F J G) (Bp .add c (I 1) λL=>KS [f,e,g]<|q k L p)) (R k m)
theorem Tz238 (h:Vz238 prog a0 a1 w R):Cl prog 238 #[a0,a1] w R:=
 tz 24 [(.tmp 4)] (s z (s z (s (s z (b (l [5,10] [1,8,9] (s z (s (i z z) (s (b (s z (s z (i z z)))) z)))))) (s z z)))) [a0,a1] func238 h
def Vz239:VT2:=λP c f w R=>
 Dr w λe=>Nc c<|Fo 0 c λg=>Ld g e λk=>Bp .quo f (I 8) λm=>Nc c<|Fo 1 c λp=>Ld p e λq=>Bp .sub m q λt=>Ixs k t λu=>Bp .rem f (I 8) λv=>Bp .sub (I 7) v λy=>Bp .shr u y λC=>Bp .and C (.int .u8 1) λD=>Ci .u32 D λE=>R E e
theorem Tz239 (h:Vz239 prog a0 a1 w R):Cl prog 239 #[a0,a1] w R:=
 tz 25 [(.tmp 4)] (s z (s (r (.staged [0,1,3,7,0,16,0,64,192,448,1008,2047,4095])) (s z z))) [a0,a1] func239 h
def Vz240:VT1:=λP c w R=>
 Cl P 209 #[c,(I 16)] w λu v=>Ex u 0 λM=>Ex u 1 λy=>Bv .neq y (I 0) (R (.tuple #[(.string ⟨#[]⟩),y]) v) (New (zeroP P 139) 139 v λe N=>Cl P 257 #[M] N λf O=>Lnl f λm=>VLoop 1 [(I 0)] O λ_ Q g k=>Bv .lss g m (Ias 1 f g λS=>Ld S k λC=>Cl P 209 #[c,(I 16)] k λD E=>Ex D 0 λU=>Ex D 1 λF=>Bv .neq F (I 0) (R (.tuple #[(.string ⟨#[]⟩),F]) E) (Cl P 257 #[U] E λp W=>Lnl p λG=>VLoop 1 [(I 0)] W λ_ Y q t=>Bv .lss q G (Ias 1 p q λZ=>Ld Z t λa0=>Bp .mul (I 16) C λa1=>Bp .add a1 a0 λa2=>Iaa 256 1 e a2 λa3=>St a3 (.bool true) t λa4=>Bp .add q (I 1) λa5=>KS [c,e,C,f,m,g,p,G]<|Y a5 a4) (Bp .add g (I 1) λa6=>KS [c,e,f,m]<|Q a6 t))) (LdA 256 e k λa7=>Cl P 88 #[a7] k λJ L=>Bp .eql J (.string ⟨#[]⟩) λa8=>Vif a8 (R (.tuple #[(.string ⟨#[]⟩),(I 25)]) L) (R (.tuple #[J,(I 0)]) L)))
theorem Tz240 (h:Vz240 prog a0 w R):Cl prog 240 #[a0] w R:=
 tz 56 [(.tmp 2),(.tmp 3)] (s z (s z (s (s z (i (s z z) z)) (s z (s (s z (b (l [25] [0,6,23,24] (s z (s (i z z) (s (b (s z (s z (s (s z (i (s z z) z)) (s z (b (l [40] [0,6,8,23,24,25,38,39] (s z (s (i z z) (s (b (s z z)) z)))))))))) z)))))) (s z (s (s z (i (s z z) z)) (s z z)))))))) [a0] func240 h
def Vz241:VT1:=λP c w R=>
 Cl P 258 #[c] w λe f=>Ex e 0 λm=>Ex e 1 λg=>Bv .neq g (I 0) (R (.tuple #[(.pointer none),g]) f) (Cl P 259 #[] f λp k=>Bd P 296 #[(0,c),(1,p),(3,m)] k λq=>New q 296 k λt u=>R (.tuple #[t,(I 0)]) u)
theorem Tz241 (h:Vz241 prog a0 w R):Cl prog 241 #[a0] w R:=
 tz 19 [(.tmp 2),(.tmp 3)] (s z (s z (s (s z (i (s z z) z)) (s z z)))) [a0] func241 h
def Vz242:VT2:=λP e c w R=>
 VJoin 1 (λ_ k f=>Vif k (R (.tuple #[(.pointer none),(I 1)]) f) (Bd P 309 #[(0,e),(1,c),(4,(I 1))] f λm=>New m 309 f λp q=>R (.tuple #[p,(I 0)]) q)) (λJ4=>Cl P 91 #[e] w λt g=>Up .not t λu=>Vif u (KS [e,c]<|J4 (.bool true) g) (Bv .lss c (I 0) (KS [e,c]<|J4 (.bool true) g) (Bp .gtr c (I 1099511627776) λv=>KS [e,c]<|J4 v g)))
theorem Tz242 (h:Vz242 prog a0 a1 w R):Cl prog 242 #[a0,a1] w R:=
 tz 21 [(.tmp 4),(.tmp 5)] (s z (s (j [16] [0,1] z (i (s z z) z)) (s z z))) [a0,a1] func242 h
def Vz243:VT2:=λP c t w R=>
 Nc c<|Fo 5 c λu=>Ld u w λv=>Bp .quo v (I 50) λg=>Nc c<|Fo 2 c λy=>Ld y w λC=>Lnl C λD=>Bp .geq g D λE=>Vif E (R (.tuple #[(I (-1)),(I 25)]) w) (Dr w λe=>Nc c<|Fo 4 c λF=>Ld F e λG=>Nc c<|Fo 2 c λJ=>Ld J e λL=>Ias 1 L g λM=>Ld M e λN=>Ias 1 G N λO=>Ld O e λQ=>Cl P 260 #[Q,t] e λk f=>Ex k 0 λm=>Ex k 1 λp=>Bv .neq p (I 0) (R (.tuple #[(I (-1)),p]) f) (Nc c<|Fo 5 c λS=>Ld S f λU=>Bp .add U (I 1) λW=>Nc c<|Fo 5 c λY=>St Y W f λq=>Nc c<|Fo 0 c λZ=>Ld Z q λa0=>Bp .sub a0 (I 1) λa1=>Bp .eql m a1 λa2=>Nc c<|Fo 6 c λa3=>St a3 a2 q λa4=>R (.tuple #[m,(I 0)]) a4))
theorem Tz243 (h:Vz243 prog a0 a1 w R):Cl prog 243 #[a0,a1] w R:=
 tz 60 [(.tmp 4),(.tmp 5)] (s z (s z (s (s z (i (s z z) z)) (s (r (.staged [0,1,3,7,0,16,48,112,0,496,1008,2047,4095,0,16383,32767,65535,65535,131071,524287])) (s (s z (i (s z z) z)) (s z (s z (s z z)))))))) [a0,a1] func243 h
def Vz244:VT1:=λP c w R=>
 Dr w λe=>Bn P 311 true c (.pointer none) λf=>Vif f (Nc c<|Fo 1 c λg=>Ld g e λk=>Bv .gtr k (I 0) (Nc c<|Fo 8 c λm=>Ld m e λp=>Lnl p λq=>Nc c<|Fo 1 c λt=>Ld t e λu=>Bp .eql q u λv=>R v e) (R (.bool false) e)) (R (.bool false) e)
theorem Tz244 (h:Vz244 prog a0 w R):Cl prog 244 #[a0] w R:=
 tz 24 [(.tmp 2)] (s z (s (r (.staged [0,1,3,7,15,31,63,127,255,511,1023,2047,4095,8191,16383,1023,33791,99327,230399,524287,1048575,2097151])) z)) [a0] func244 h
def Vz245:VT2:=λP c k w R=>
 Nc c<|Fo 1 c λm=>Ld m w λp=>Cl P 261 #[p,k] w λf g=>Nc c<|Fo 1 c λq=>Ld q g λt=>Cl P 244 #[t] g λu e=>Vif u (Nc c<|Fo 1 c λv=>Ld v e λy=>Cl P 262 #[y] e λC D=>Nc c<|Fo 2 c λE=>St E C D λF=>R (.tuple #[(I (-1)),f]) F) (R (.tuple #[(I (-1)),f]) e)
theorem Tz245 (h:Vz245 prog a0 a1 w R):Cl prog 245 #[a0,a1] w R:=
 tz 27 [(.tmp 4),(.tmp 5)] (s z (s z (s (s z (i z z)) (s z z)))) [a0,a1] func245 h
def Vz246:VT1:=λP c w R=>
 Bn P 311 false c (.pointer none) λe=>Vif e (R (I 0) w) (Nc c<|Fo 0 c λf=>Ld f w λg=>R g w)
theorem Tz246 (h:Vz246 prog a0 w R):Cl prog 246 #[a0] w R:=
 tz 9 [(.tmp 2)] (s z (s (s z (i (s z z) z)) (s z z))) [a0] func246 h
def Vz247:VT2:=λP c u w R=>
 Nc c<|Fo 3 c λv=>Ld v w λy=>Cl P 263 #[y,u] w λe f=>VJoin 1 (λ_ C g=>Vif C (R (.tuple #[(I (-1)),e]) g) (Nc c<|Fo 3 c λD=>Ld D g λE=>Cl P 265 #[E] g λF G=>Cl P 102 #[F] G λm k=>Ex m 0 λJ=>Ex m 1 λp=>Bv .neq p (I 0) (R (.tuple #[(I (-1)),p]) k) (Nc c<|Fo 4 c λL=>Ld L k λM=>Bs P 157 1 #[(0,J)] k λN O=>Ap P #[157,157] 157 #[M,N] O λQ S=>Nc c<|Fo 4 c λU=>St U Q S λq=>Nc c<|Fo 0 c λW=>Ld W q λY=>Cl P 258 #[Y] q λt Z=>Ex t 0 λa0=>Ex t 1 λa8=>Nc c<|Fo 3 c λa1=>St a1 a0 Z λa2=>R (.tuple #[(I (-1)),(I 0)]) a2))) (λJ23=>Bv .neq e (I 0) (KS [c,e]<|J23 (.bool true) f) (Nc c<|Fo 3 c λa3=>Ld a3 f λa4=>Cl P 264 #[a4] f λa5 a6=>Up .not a5 λa7=>KS [c,e]<|J23 a7 a6))
theorem Tz247 (h:Vz247 prog a0 a1 w R):Cl prog 247 #[a0,a1] w R:=
 tz 62 [(.tmp 4),(.tmp 5)] (s z (s (s z (j [26] [0,6] z (i (s z z) z))) (s z (s (s z (i (s z z) z)) (s z (s z (s z (s z z)))))))) [a0,a1] func247 h
def Vz248:VT2:=λP c e w R=>
 VJoin 1 (λ_ C g=>Vif C (R (.tuple #[(I 0),(I 0),(I 7)]) g) (VJoin 1 (λ_ D f=>Vif D (R (.tuple #[(I 0),(I 0),(I 25)]) f) (Bv .leq e (I 1) (Cl P 266 #[c,e] f λp q=>Bv .neq p (I 0) (R (.tuple #[(I 0),(I 0),p]) q) (R (.tuple #[(I 0),(I (-1)),(I 0)]) q)) (Bp .sub e (I 1) λE=>VJoin 1 (λ_ F m=>Nc c<|Fo 3 c λG=>Ld G m λt=>Nc c<|Fo 2 c λJ=>Ld J m λL=>Bp .add L t λM=>Nc c<|Fo 2 c λN=>St N M m λO=>Nc c<|Fo 3 c λQ=>St Q (I 0) O λS=>Nc c<|Fo 4 c λU=>St U (I 1) S λW=>R (.tuple #[t,F,(I 0)]) W) (λJ16=>Nc c<|Fo 0 c λY=>Ld Y f λZ=>Bp .add Z (I 1) λa0=>Bp .eql e a0 λa1=>Vif a1 (Nc c<|Fo 5 c λa2=>St a2 (.bool true) f λa3=>KS [c]<|J16 (I (-1)) a3) (Dr f λu=>Cl P 267 #[c] u λa4 k=>Nc c<|Fo 1 c λv=>Ld v k λy=>Rk (λw K=>Ld v w λa5=>K a5) y u<|Bv .eql a4 y (R (.tuple #[(I 0),(I 0),(I 2)]) k) (Nc c<|Fo 2 c λa6=>Ld a6 k λa7=>Bp .add a7 (I 1) λa8=>Nc c<|Fo 2 c λa9=>St a9 a8 k λb0=>KS [c]<|J16 E b0)))))) (λJ32=>Bp .lss e (I 0) λb1=>Vif b1 (KS [c,e]<|J32 (.bool true) g) (Nc c<|Fo 0 c λb2=>Ld b2 g λb3=>Bp .add b3 (I 1) λb4=>Bp .gtr e b4 λb5=>KS [c,e]<|J32 b5 g)))) (λJ38=>Bn P 309 false c (.pointer none) λb6=>Vif b6 (KS [c,e]<|J38 (.bool true) w) (Nc c<|Fo 5 c λb7=>Ld b7 w λb8=>KS [c,e]<|J38 b8 w))
theorem Tz248 (h:Vz248 prog a0 a1 w R):Cl prog 248 #[a0,a1] w R:=
 tz 84 [(.tmp 4),(.tmp 5),(.tmp 6)] (s z (s (b (j [8] [0,1] z (i (s z z) (j [17] [0,1] z (i (s z z) (s z (i (s (s z (s z (i (s z z) z))) (s z z)) z))))))) (s z (j [5] [0] (s z (i (s z z) (s (r (.staged [0,1,0,4,12,28,63])) (i (s z z) z)))) (s z (s z (s z (s z (s z z))))))))) [a0,a1] func248 h
def Vz249:VT1:=λP g w R=>
 New g 86 w λc e=>VJoin 1 (λ_ k f=>Vif k (R (.tuple #[(.string ⟨#[]⟩),(I 1)]) f) (LdA 2 c f λm=>Cl P 268 #[m] f λp q=>R (.tuple #[p,(I 0)]) q)) (λJ5=>Fo 1 c λt=>Ld t e λu=>Bv .lss u (I 1) (KS [c]<|J5 (.bool true) e) (Fo 1 c λv=>Ld v e λy=>Bp .gtr y (I 255) λC=>KS [c]<|J5 C e))
theorem Tz249 (h:Vz249 prog a0 w R):Cl prog 249 #[a0] w R:=
 tz 14 [(.tmp 2),(.tmp 3)] (s z (s (j [11] [1] z (i (s z z) z)) (s z z))) [a0] func249 h
def Vz250:VT3:=λP g k m w R=>
 Cl P 269 #[g,k] w λp q=>Cl P 269 #[g,m] q λt u=>New (zeroP P 51) 51 u λe v=>New (zeroP P 51) 51 v λf y=>StA 2 e p y λC=>StA 2 f t C λc=>Iaa 2 1 e (I 0) λD=>Ld D c λE=>Iaa 2 1 f (I 0) λF=>Ld F c λG=>Bv .gtr E G (R (.bool true) c) (Iaa 2 1 e (I 0) λJ=>Ld J c λL=>Iaa 2 1 f (I 0) λM=>Ld M c λN=>Bv .eql L N (Iaa 2 1 e (I 1) λO=>Ld O c λQ=>Iaa 2 1 f (I 1) λS=>Ld S c λU=>Bp .gtr Q U λW=>R W c) (R (.bool false) c))
theorem Tz250 (h:Vz250 prog a0 a1 a2 w R):Cl prog 250 #[a0,a1,a2] w R:=
 tz 34 [(.tmp 6)] (s z (s z (s z z))) [a0,a1,a2] func250 h
def Vz251:VT1:=λP c w R=>
 Nc c<|Fo 2 c λq=>Ld q w λt=>Nc c<|Fo 3 c λu=>Ld u w λv=>Nc c<|Fo 2 c λy=>St y v w λC=>Nc c<|Fo 3 c λD=>St D t C λE=>Nc c<|Fo 12 c λF=>St F (I 0) E λG=>VJoin 1 (λ_ J f=>Vif J (Nc c<|Fo 15 c λL=>St L (.bool true) f λM=>R (.tuple #[]) M) (Nc c<|Fo 4 c λN=>Ld N f λO=>Bp .mul (I 2) O λQ=>Bmax P #[3,3] 3 #[(I 1),Q] f λS=>Nc c<|Fo 4 c λU=>St U S f λW=>Dr W λg=>Nc c<|Fo 5 c λk=>Ld k g λm=>Nc c<|Fo 1 c λY=>Ld Y g λZ=>Lnl Z λa0=>Bd P 248 #[(0,(I 0)),(2,a0)] g λa1=>Bs P 246 1 #[(0,a1)] g λa2 p=>Rk (λw K=>Ld k w λa3=>K a3) m p<|Ap P #[246,246] 246 #[m,a2] p λa4 a5=>Nc c<|Fo 5 c λa6=>St a6 a4 a5 λa7=>R (.tuple #[]) a7)) (λJ28=>Dr G λe=>Nc c<|Fo 13 c λa8=>Ld a8 e λa9=>Nc c<|Fo 1 c λb0=>Ld b0 e λb1=>Lnl b1 λb2=>Bp .sub b2 (I 1) λb3=>Bp .eql a9 b3 λb4=>Vif b4 (KS [c]<|J28 (.bool true) e) (Nc c<|Fo 4 c λb5=>Ld b5 e λb6=>Nc c<|Fo 1 c λb7=>Ld b7 e λb8=>Lnl b8 λb9=>Bp .geq b6 b9 λc0=>KS [c]<|J28 c0 e))
theorem Tz251 (h:Vz251 prog a0 w R):Cl prog 251 #[a0] w R:=
 tz 71 [] (s z (s z (s z (s z (s (j [43] [0] (r (.staged [0,1,3,7,0,16,48,112,240,496,1023,2047,4095,8191,16383,32767,4095,69631,200703,462847,987135,2097151,4194303])) (i (s z z) z)) (s z (r (.staged [0,0,2,6,14,0,32,96,224,480,992,2016,4094,8191,16383,32767])))))))) [a0] func251 h
def Vz252:VT1:=λP e w R=>
 Cl P 270 #[e] w λc u=>Lnl e λv=>Bp .sub v (I 1) λp=>VLoop 1 [(I 0)] u λ_ y q m=>Bp .lss q p λC=>Vif C (Cl P 271 #[c] m λD E=>Cl P 271 #[c] E λF G=>Cl P 272 #[c,D,F] G λb0 J=>Bp .add q (I 1) λL=>KS [e,c,p]<|y L J) (Nc c<|Fo 0 c λM=>Ld M m λN=>Lnl N λt=>Ms P 69 t t m λf O=>Lnl f λQ=>Bp .sub Q (I 2) λS=>VLoop 1 [S] O λ_ U k g=>Bp .geq k (I 0) λW=>Vif W (Nc c<|Fo 1 c λY=>Ld Y g λZ=>Ias 1 Z k λa0=>Ld a0 g λa1=>Ias 1 f a1 λa2=>Ld a2 g λa3=>Bp .add a3 (I 1) λa4=>Ias 1 f k λa5=>St a5 a4 g λa6=>Bp .sub k (I 1) λa7=>KS [e,c,f]<|U a7 a6) (Lnl e λa8=>Ssl 1 f none (some a8) λa9=>R a9 g))
theorem Tz252 (h:Vz252 prog a0 w R):Cl prog 252 #[a0] w R:=
 tz 53 [(.tmp 2)] (s z (s z (s (s z (b (l [12] [0,3,11] (s z (s (i z z) (s (b (s z z)) z)))))) (s z (s (s z (b (l [6] [0,3,5] (s (s z (i z z)) (s (b z) z))))) (s z z)))))) [a0] func252 h
def Vz253:VT1:=λP e w R=>
 Lnl e λg=>VLoop 2 [(I 0),(I 0)] w λ_ m k f c=>Bv .lss f g (Ias 1 e f λp=>Ld p c λq=>Bmax P #[3,3] 3 #[k,q] c λt=>Bp .add f (I 1) λu=>KS [e,g]<|m t u c) (R k c)
theorem Tz253 (h:Vz253 prog a0 w R):Cl prog 253 #[a0] w R:=
 tz 17 [(.tmp 2)] (s z (s z (s (s z (b (l [3,8] [6,7] (s z (s (i z z) (s (b (s z z)) z)))))) (s z z)))) [a0] func253 h
def Vz254:VT1:=λP c w R=>
 Lnl c λk=>Ms P 69 k k w λg p=>Lnl c λm=>VLoop 1 [(I 0)] p λ_ q e f=>Bv .lss e m (Ias 1 c e λt=>Ld t f λu=>Bmax P #[3,3] 3 #[u,(I 0)] f λv=>Bp .quo v (I 2) λy=>Bp .add y (I 1) λC=>Ias 1 g e λD=>St D C f λE=>Bp .add e (I 1) λF=>KS [g,c,m]<|q F E) (R g f)
theorem Tz254 (h:Vz254 prog a0 w R):Cl prog 254 #[a0] w R:=
 tz 25 [(.tmp 2)] (s z (s z (s (s z (b (l [11] [3,9,10] (s z (s (i z z) (s (b (s z z)) z)))))) (s z z)))) [a0] func254 h
def Vz255:VT3:=λP c e f w R=>
 Ld e w λg=>Bv .lss c g (R (.bool true) w) (Ld f w λk=>Bp .gtr c k λm=>R m w)
theorem Tz255 (h:Vz255 prog a0 a1 a2 w R):Cl prog 255 #[a0,a1,a2] w R:=
 tz 13 [(.tmp 4)] (s z (s z z)) [a0,a1,a2] func255 h
def Vz256:VT2:=λP g k w R=>
 New g 285 w λe m=>New k 285 m λf c=>Fo 0 e λp=>Ld p c λq=>Fo 0 f λt=>Ld t c λu=>Bv .lss q u (R (.bool true) c) (Fo 0 e λv=>Ld v c λy=>Fo 0 f λC=>Ld C c λD=>Bv .eql y D (Fo 1 e λE=>Ld E c λF=>Fo 1 f λG=>Ld G c λJ=>Bp .lss F J λL=>R L c) (R (.bool false) c))
theorem Tz256 (h:Vz256 prog a0 a1 w R):Cl prog 256 #[a0,a1] w R:=
 tz 24 [(.tmp 4)] (s z (s z z)) [a0,a1] func256 h
def Vz257:VT1:=λP e w R=>
 VLoop 2 [(.slice none 0 0),(I 0)] w λ_ k f c g=>Bv .lss c (I 16) (Bp .sub (I 15) c λm=>Bp .shr e m λp=>Bp .and p (.int .u32 1) λq=>Bp .eql q (.int .u32 1) λt=>Vif t (Bs P 69 1 #[(0,c)] g λu v=>Ap P #[69,69] 69 #[f,u] v λy C=>Bp .add c (I 1) λD=>KS [e]<|k y D C) (Bp .add c (I 1) λE=>KS [e]<|k f E g)) (R f g)
theorem Tz257 (h:Vz257 prog a0 w R):Cl prog 257 #[a0] w R:=
 tz 20 [(.tmp 2)] (s z (s z (s (s z (b (l [3,5] [0] (s z (s (i z z) (s (b (s z (s z (i z z)))) z)))))) (s z z)))) [a0] func257 h
def Vz258:VT1:=λP e w R=>
 Cl P 195 #[e] w λf c=>Up .not f λg=>Vif g (R (.tuple #[(.pointer none),(I 1)]) c) (Bd P 318 #[(0,e)] c λk=>New k 318 c λm p=>R (.tuple #[m,(I 0)]) p)
theorem Tz258 (h:Vz258 prog a0 w R):Cl prog 258 #[a0] w R:=
 tz 10 [(.tmp 2),(.tmp 3)] (s z (s (s z (i (s z z) z)) (s z z))) [a0] func258 h
def Vz259:VT0:=λP w R=>
 Cl P 193 #[] w λe c=>Bd P 311 #[(2,e)] c λf=>New f 311 c λg k=>R g k
theorem Tz259 (h:Vz259 prog w R):Cl prog 259 #[] w R:=
 tz 4 [(.tmp 0)] (s z (s z z)) [] func259 h
def Vz260:VT2:=λP e c w R=>
 VJoin 1 (λ_ q g=>Vif q (R (.tuple #[(I 0),(I 7)]) g) (Cl P 25 #[c] g λt u=>Cl P 273 #[e,c] u λk m=>Ex k 0 λp=>Ex k 1 λf=>Bv .neq f (I 0) (Cl P 60 #[c,t] m λD v=>R (.tuple #[p,f]) v) (R (.tuple #[p,f]) m))) (λJ8=>Bn P 219 false e (.pointer none) λy=>Vif y (KS [e,c]<|J8 (.bool true) w) (Bn P 90 false c (.pointer none) λC=>KS [e,c]<|J8 C w))
theorem Tz260 (h:Vz260 prog a0 a1 w R):Cl prog 260 #[a0,a1] w R:=
 tz 30 [(.tmp 4),(.tmp 5)] (s z (s (j [14] [0,1] z (i (s z z) z)) (s z (s z (s (s z (i z z)) (s z z)))))) [a0,a1] func260 h
def Vz261:VT2:=λP c e w R=>
 VJoin 1 (λ_ q g=>Vif q (R (I 7) g) (Nc c<|Fo 9 c λt=>Ld t g λu=>Vif u (R (I 25) g) (Cl P 25 #[e] g λk f=>Mf P (.func 274) #[c] #[] f λv=>VJoin 1 (λ_ y C=>Inv P (do let d <-Deferred.ofValue y #[e];invoke d.target d.args) C λm p=>Bv .eql m (I 3) (Cl P 60 #[e,k] p λO D=>R m D) (R m p)) (λJ10=>Nc c<|Fo 1 c λE=>Ld E f λF=>Bv .eql F (I 0) (Mf P (.func 275) #[c] #[] f λG=>KS [e,k]<|J10 G f) (KS [e,k]<|J10 v f))))) (λJ15=>Bn P 311 false c (.pointer none) λJ=>Vif J (KS [c,e]<|J15 (.bool true) w) (Bn P 90 false e (.pointer none) λL=>Vif L (KS [c,e]<|J15 (.bool true) w) (Cl P 244 #[c] w λM N=>KS [c,e]<|J15 M N)))
theorem Tz261 (h:Vz261 prog a0 a1 w R):Cl prog 261 #[a0,a1] w R:=
 tz 44 [(.tmp 4)] (s z (s (b (j [8] [0,1] z (i (s z z) (s z (i (s z z) z))))) (s z (s z (j [6] [1,5] (s z (i z z)) (s z (s (s z (i z z)) (s z z)))))))) [a0,a1] func261 h
def Vz262:VT1:=λP c w R=>
 Bn P 311 false c (.pointer none) λe=>Vif e (R (.slice none 0 0) w) (Nc c<|Fo 8 c λf=>Ld f w λg=>Cl P 153 #[g] w λk m=>R k m)
theorem Tz262 (h:Vz262 prog a0 w R):Cl prog 262 #[a0] w R:=
 tz 10 [(.tmp 2)] (s z (s (s z (i (s z z) z)) (s z z))) [a0] func262 h
def Vz263:VT2:=λP c e w R=>
 VJoin 1 (λ_ m f=>Vif m (R (I 7) f) (Nc c<|Fo 3 c λp=>Ld p f λq=>Vif q (R (I 22) f) (Cl P 25 #[e] f λt u=>Cl P 276 #[c,e] u λg k=>Bv .eql g (I 3) (Cl P 60 #[e,t] k λF v=>R g v) (R g k)))) (λJ8=>Bn P 318 false c (.pointer none) λy=>Vif y (KS [c,e]<|J8 (.bool true) w) (Bn P 90 false e (.pointer none) λC=>Vif C (KS [c,e]<|J8 (.bool true) w) (Cl P 264 #[c] w λD E=>KS [c,e]<|J8 D E)))
theorem Tz263 (h:Vz263 prog a0 a1 w R):Cl prog 263 #[a0,a1] w R:=
 tz 34 [(.tmp 4)] (s z (s (b (j [7] [0,1] z (i (s z z) (s z (i (s z z) z))))) (s z (s z (s (s z (i z z)) (s z z)))))) [a0,a1] func263 h
def Vz264:VT1:=λP c w R=>
 Dr w λe=>Bn P 318 true c (.pointer none) λf=>Vif f (Nc c<|Fo 2 c λg=>Ld g e λk=>Lnl k λm=>Nc c<|Fo 0 c λp=>Ld p e λq=>Bp .eql m q λt=>R t e) (R (.bool false) e)
theorem Tz264 (h:Vz264 prog a0 w R):Cl prog 264 #[a0] w R:=
 tz 17 [(.tmp 2)] (s z (s (r (.staged [0,1,3,7,15,31,63,127,7,263,775,1799,4095,8191,16383])) z)) [a0] func264 h
def Vz265:VT1:=λP c w R=>
 Bn P 318 false c (.pointer none) λe=>Vif e (R (.slice none 0 0) w) (Nc c<|Fo 2 c λf=>Ld f w λg=>Cl P 153 #[g] w λk m=>R k m)
theorem Tz265 (h:Vz265 prog a0 w R):Cl prog 265 #[a0] w R:=
 tz 10 [(.tmp 2)] (s z (s (s z (i (s z z) z)) (s z z))) [a0] func265 h
def Vz266:VT2:=λP c q w R=>
 Nc c<|Fo 4 c λt=>Ld t w λu=>Bp .shl u q λf=>Dr w λg=>Nc c<|Fo 1 c λk=>Ld k g λm=>Cl P 267 #[c] g λv e=>Rk (λw K=>Ld k w λy=>K y) m e<|Bp .sub m v λC=>Bp .gtr f C λD=>Vif D (R (I 2) e) (Nc c<|Fo 3 c λE=>Ld E e λF=>Bp .add F f λG=>Nc c<|Fo 3 c λJ=>St J G e λp=>Nc c<|Fo 4 c λL=>Ld L p λM=>Bp .mul M (I 2) λN=>Nc c<|Fo 4 c λO=>St O N p λQ=>R (I 0) Q)
theorem Tz266 (h:Vz266 prog a0 a1 w R):Cl prog 266 #[a0,a1] w R:=
 tz 36 [(.tmp 4)] (s z (s z (s (s (r (.staged [0,0,2,6,14,0,32,126,255])) (i (s z z) z)) (s z (s z (s z z)))))) [a0,a1] func266 h
def Vz267:VT1:=λP c w R=>
 Bn P 309 false c (.pointer none) λf=>Vif f (R (I 0) w) (Dr w λe=>Nc c<|Fo 2 c λg=>Ld g e λk=>Nc c<|Fo 3 c λm=>Ld m e λp=>Bp .add k p λq=>R q e)
theorem Tz267 (h:Vz267 prog a0 w R):Cl prog 267 #[a0] w R:=
 tz 14 [(.tmp 2)] (s z (s (s z (i (s z z) z)) (s (r (.staged [0,1,3,7,0,16,48,112,255,511])) z))) [a0] func267 h
def Vz268:VT1:=λP F w R=>
 New F 86 w λc t=>Fo 0 c λG=>Ld G t λJ=>Bs P 54 1 #[(0,J)] t λL M=>Cw P 54 9 L M λf e=>Fo 1 c λN=>Ld N e λO=>Bv .lss O (I 4) (Fo 1 c λQ=>Ld Q e λS=>Cl P 277 #[f,S] e λU W=>R U W) (Dr e λg=>Fo 1 c λk=>Ld k g λm=>Bp .sub m (I 4) λY=>Ci .u8 Y λu=>(Cl P 277 #[f,(I 4)] g λZ v=>Rk (λw K=>Ld k w λp=>K p) m v<|Bs P 54 1 #[(0,u)] v λa0 y=>Cv P 54 9 a0 y λa1=>Bp .add Z a1 λa2=>R a2 y)/\(Bs P 54 1 #[(0,u)] g λC D=>Cv P 54 9 C D λE=>Cl P 277 #[f,(I 4)] D λa3 q=>Rk (λw K=>Cv P 54 9 C w λa4=>K a4) E q<|Rk (λw K=>Ld k w λp=>K p) m q<|Bp .add a3 E λa5=>R a5 q))
theorem Tz268 (h:Vz268 prog a0 w R):Cl prog 268 #[a0] w R:=
 tz 24 [(.tmp 2)] (s z (s z (s (s z (i (s z z) z)) (s (r (.tree [0,1,0,4,12,28,60,124,255,511] (.op 0 (.op 2 (.op 3 (.op 4 (.op 5 (.fk (.op 1 (.op 6 (.op 7 (.op 8 (.op 9 .dn))))) (.op 6 (.op 7 (.op 1 (.op 8 (.op 9 .dn))))))))))))) z)))) [a0] func268 h
def Vz269:VT2:=λP c k w R=>
 New (zeroP P 51) 51 w λg f=>Nc c<|Fo 4 c λq=>Ld q f λt=>Bv .eql t (I 0) (Nc c<|Fo 0 c λu=>Ld u f λv=>Ixs v k λy=>Ci .i64 y λC=>Bd P 51 #[(0,C),(1,(I 0))] f λD=>StA 2 g D f λm=>LdA 2 g m λE=>R E m) (Dr f λe=>Nc c<|Fo 2 c λF=>Ld F e λG=>Ias 1 G k λJ=>Ld J e λL=>Nc c<|Fo 2 c λM=>Ld M e λN=>Nc c<|Fo 4 c λO=>Ld O e λQ=>Bp .add k Q λS=>Nc c<|Fo 0 c λU=>Ld U e λW=>Lns W λY=>Bp .rem S Y λZ=>Ias 1 N Z λa0=>Ld a0 e λa1=>Bd P 51 #[(0,L),(1,a1)] e λa2=>StA 2 g a2 e λp=>LdA 2 g p λa3=>R a3 p)
theorem Tz269 (h:Vz269 prog a0 a1 w R):Cl prog 269 #[a0,a1] w R:=
 tz 44 [(.cell 4 51)] (s z (s (s z (i (s z z) z)) (s (r (.staged [0,1,3,7,0,31,63,0,128,384,896,0,0,4096,12288,28672,63488,0,131072,393216,917504,1966080,4192256,8388480,16777088,33554431,67108863])) z))) [a0,a1] func269 h
def Vz270:VT1:=λP y w R=>
 New y 69 w λe C=>Dr C λg=>Ld e g λD=>Cl P 153 #[D] g λE k=>Ld e k λm=>Rk (λw K=>Ld e w λF=>K F) m g<|Lnl m λq=>Rk (λw K=>Lnl m λG=>K G) q g<|Bd P 316 #[(0,E),(3,q)] k λJ=>New J 316 k λc t=>Ld e t λL=>Lnl L λu=>VLoop 1 [(I 0)] t λ_ M p f=>Bv .lss p u (Nc c<|Fo 2 c λN=>Ld N f λO=>Bs P 69 1 #[(0,p)] f λQ S=>Ap P #[69,69] 69 #[O,Q] S λU W=>Nc c<|Fo 2 c λY=>St Y U W λv=>Nc c<|Fo 1 c λZ=>Ld Z v λa0=>Bs P 69 1 #[(0,(I (-1)))] v λa1 a2=>Ap P #[69,69] 69 #[a0,a1] a2 λa3 a4=>Nc c<|Fo 1 c λa5=>St a5 a3 a4 λa6=>Bp .add p (I 1) λa7=>KS [e,c,u]<|M a7 a6) (Nc c<|Fo 2 c λa8=>Ld a8 f λa9=>Mf P (.func 279) #[] #[e] f λb0=>Cl P 278 #[a9,b0] f λb2 b1=>R c b1)
theorem Tz270 (h:Vz270 prog a0 w R):Cl prog 270 #[a0] w R:=
 tz 43 [(.tmp 2)] (s z (s (r (.staged [0,1,0,4,15,31,63])) (s (s z (b (l [13] [1,3,12] (s z (s (i z z) (s (b (s z (s z z))) z)))))) (s z (s z z))))) [a0] func270 h
def Vz271:VT1:=λP c w R=>
 VJoin 1 (λ_ k f=>Vif k (Nc c<|Fo 2 c λm=>Ld m f λp=>Ias 1 p (I 0) λq=>Ld q f λt=>Nc c<|Fo 2 c λu=>Ld u f λv=>Ssl 1 v (some (I 1)) none λy=>Nc c<|Fo 2 c λC=>St C y f λD=>R t D) (Nc c<|Fo 3 c λE=>Ld E f λF=>Bp .add F (I 1) λG=>Nc c<|Fo 3 c λJ=>St J G f λg=>Nc c<|Fo 3 c λL=>Ld L g λM=>Bp .sub M (I 1) λN=>R N g)) (λJ17=>Dr w λe=>Nc c<|Fo 3 c λO=>Ld O e λQ=>Nc c<|Fo 0 c λS=>Ld S e λU=>Lnl U λW=>Bp .eql Q W λY=>Vif Y (KS [c]<|J17 (.bool true) e) (Nc c<|Fo 2 c λZ=>Ld Z e λa0=>Lnl a0 λa1=>Bv .gtr a1 (I 0) (Nc c<|Fo 0 c λa2=>Ld a2 e λa3=>Nc c<|Fo 2 c λa4=>Ld a4 e λa5=>Ias 1 a5 (I 0) λa6=>Ld a6 e λa7=>Ias 1 a3 a7 λa8=>Ld a8 e λa9=>Nc c<|Fo 0 c λb0=>Ld b0 e λb1=>Nc c<|Fo 3 c λb2=>Ld b2 e λb3=>Ias 1 b1 b3 λb4=>Ld b4 e λb5=>Bp .leq a9 b5 λb6=>KS [c]<|J17 b6 e) (KS [c]<|J17 (.bool false) e)))
theorem Tz271 (h:Vz271 prog a0 w R):Cl prog 271 #[a0] w R:=
 tz 74 [(.tmp 2)] (s z (s (j [46] [0] (r (.staged [0,1,3,7,0,16,48,112,240,511,1023,2047,4095,8191,16383,32767,65535,131071,262143,524287,1048575,2097151,262143,4456447,12845055,29622271,63176703,130285567,268435455,536870911,262143,1074003967,3221487615,7516454911,262143,17180131327,51539869695,120259346431,273804427263,548682334207,1099511627775,2199023255551,4398046511103])) (i (s z (s z (s z z))) z)) (s z (s z z)))) [a0] func271 h
def Vz272:VT3:=λP c k m w R=>
 Dr w λf=>Nc c<|Fo 1 c λv=>Ld v f λy=>Nc c<|Fo 0 c λC=>Ld C f λD=>Lnl D λE=>Ias 1 y k λF=>St F E f λG=>Dr G λg=>Nc c<|Fo 1 c λJ=>Ld J g λL=>Nc c<|Fo 0 c λM=>Ld M g λN=>Lnl N λO=>Ias 1 L m λQ=>St Q O g λS=>Dr S λe=>Nc c<|Fo 0 c λp=>Ld p e λq=>Nc c<|Fo 0 c λU=>Ld U e λW=>Ias 1 W k λY=>Ld Y e λZ=>Nc c<|Fo 0 c λa0=>Ld a0 e λa1=>Ias 1 a1 m λa2=>Ld a2 e λa3=>Bp .add Z a3 λa4=>Bs P 69 1 #[(0,a4)] e λa5 t=>Rk (λw K=>Ld p w λa6=>K a6) q t<|Ap P #[69,69] 69 #[q,a5] t λa7 a8=>Nc c<|Fo 0 c λa9=>St a9 a7 a8 λu=>Nc c<|Fo 1 c λb0=>Ld b0 u λb1=>Bs P 69 1 #[(0,(I (-1)))] u λb2 b3=>Ap P #[69,69] 69 #[b1,b2] b3 λb4 b5=>Nc c<|Fo 1 c λb6=>St b6 b4 b5 λb7=>R (.tuple #[]) b7
theorem Tz272 (h:Vz272 prog a0 a1 a2 w R):Cl prog 272 #[a0,a1,a2] w R:=
 tz 61 [] (s (r (.staged [0,1,3,7,0,0,32,96,224,480,1023,2047])) (s (r (.staged [0,1,3,7,0,0,32,96,224,480,1023,2047])) (s (r (.staged [0,0,2,6,14,0,32,96,224,0,992,2016,0,4096,12288,28672,0,126976,258048,524256,1048544,2097150,4194303,8388607,16777215])) z))) [a0,a1,a2] func272 h
def Vz273:VT2:=λP c g w R=>
 VLoop 2 [(I 0),(I 1)] w λ_ v y f k=>Bv .leq f (I 20) (Cl P 209 #[g,(I 1)] k λm p=>Ex m 0 λC=>Ex m 1 λq=>Bv .neq q (I 0) (R (.tuple #[(I 0),q]) p) (Bp .mul (I 2) y λD=>Ci .i64 C λE=>Bp .add D E λt=>Dr p λe=>Nc c<|Fo 24 c λF=>Iaa 22 1 F f λG=>Ld G e λJ=>Bp .add J t λL=>Nc c<|Fo 3 c λM=>Iaa 21 1 M f λN=>Ld N e λO=>Bp .sub L O λu=>Bp .add f (I 1) λQ=>Nc c<|Fo 24 c λS=>Iaa 22 1 S Q λU=>Ld U e λW=>Bp .lss u W λY=>Vif Y (Nc c<|Fo 2 c λZ=>Ld Z e λa0=>Ias 1 a0 u λa1=>Ld a1 e λa2=>R (.tuple #[a2,(I 0)]) e) (Bp .add f (I 1) λa3=>KS [c,g]<|v t a3 e))) (R (.tuple #[(I 0),(I 22)]) k)
theorem Tz273 (h:Vz273 prog a0 a1 w R):Cl prog 273 #[a0,a1] w R:=
 tz 59 [(.tmp 4),(.tmp 5)] (s z (s z (s (s z (b (l [6,7] [0,1] (s (s z (i z z)) (s (b (s z (s (s z (i (s z z) z)) (s z (s (r (.staged [0,0,1,5,15,31,0,127,0,0,256,1280,3840,7936,16383,32767])) (s z (i (s z z) z))))))) z))))) (s z z)))) [a0,a1] func273 h
def Vz274:VT2:=λP c p w R=>
 Nc c<|Fo 0 c λE=>Ld E w λq=>VLoop 1 [(I 0)] w λ_ F e t=>Bv .lss e q (Cl P 209 #[p,(I 1)] t λu f=>Ex u 0 λG=>Ex u 1 λv=>Bv .neq v (I 0) (R v f) (Bv .eql G (.int .u32 0) (Dr f λy=>Nc c<|Fo 8 c λg=>Ld g y λk=>Nc c<|Fo 2 c λJ=>Cl P 232 #[J,e] y λL C=>Rk (λw K=>Ld g w λm=>K m) k C<|Bs P 69 1 #[(0,L)] C λM D=>Rk (λw K=>Ld g w λm=>K m) k D<|Ap P #[69,69] 69 #[k,M] D λN O=>Nc c<|Fo 8 c λQ=>St Q N O λS=>R (I 0) S) (Bp .add e (I 1) λU=>KS [c,p,q]<|F U f))) (Cl P 281 #[c] t λW Y=>R W Y)
theorem Tz274 (h:Vz274 prog a0 a1 w R):Cl prog 274 #[a0,a1] w R:=
 tz 42 [(.tmp 4)] (s z (s (s z (b (l [12] [0,1,11] (s z (s (i z z) (s (b (s z (s z (s (s z (i (s z z) z)) (s z (i (s (r (.staged [0,0,2,6,14,0,32,96,0,480,992,2046,4095,8191,16383])) (s z z)) z)))))) z)))))) (s z z))) [a0,a1] func274 h
def Vz275:VT2:=λP c u w R=>
 Cl P 209 #[u,(I 18)] w λg k=>Ex g 0 λm=>Ex g 1 λp=>Bv .neq p (I 0) (R p k) (Bp .shr m (.int .u64 15) λv=>Ci .i64 v λe=>Bp .and m (.int .u32 32767) λy=>Ci .i64 y λf=>VJoin 1 (λ_ C q=>Vif C (Cl P 281 #[c] q λD E=>R D E) (Nc c<|Fo 0 c λF=>St F e q λG=>Nc c<|Fo 1 c λJ=>St J f G λL=>R (I 0) L)) (λJ13=>Cl P 190 #[e] k λM t=>Up .not M λN=>Vif N (KS [c,e,f]<|J13 (.bool true) t) (Bp .eql f (I 0) λO=>KS [c,e,f]<|J13 O t)))
theorem Tz275 (h:Vz275 prog a0 a1 w R):Cl prog 275 #[a0,a1] w R:=
 tz 40 [(.tmp 4)] (s z (s z (s (s z (i (s z z) z)) (s z (s (j [29] [0,7,8] z (i (s z z) z)) (s z (s z (s z z)))))))) [a0,a1] func275 h
def Vz276:VT2:=λP c e w R=>
 Nc c<|Fo 1 c λF=>Ld F w λG=>Bv .eql G (I 0) (Cl P 209 #[e,(I 5)] w λm p=>Ex m 0 λJ=>Ex m 1 λq=>Bv .neq q (I 0) (R q p) (Ci .i64 J λL=>Cl P 282 #[c,L] p λM N=>R M N)) (Cl P 209 #[e,(I 1)] w λt f=>Ex t 0 λO=>Ex t 1 λu=>Bv .neq u (I 0) (R u f) (Bv .eql O (.int .u32 0) (Dr f λg=>Nc c<|Fo 2 c λv=>Ld v g λy=>Nc c<|Fo 1 c λQ=>Ld Q g λS=>Bs P 69 1 #[(0,S)] g λU C=>Rk (λw K=>Ld v w λW=>K W) y C<|Ap P #[69,69] 69 #[y,U] C λY Z=>Nc c<|Fo 2 c λa0=>St a0 Y Z λa1=>R (I 0) a1) (Cl P 209 #[e,(I 1)] f λD k=>Ex D 0 λa2=>Ex D 1 λE=>Bv .neq E (I 0) (R E k) (Nc c<|Fo 1 c λa3=>Ld a3 k λa4=>Bp .add a4 (I 1) λa5=>Ci .i64 a2 λa6=>Bp .mul (I 2) a6 λa7=>Bp .sub a5 a7 λa8=>Cl P 282 #[c,a8] k λa9 b0=>R a9 b0))))
theorem Tz276 (h:Vz276 prog a0 a1 w R):Cl prog 276 #[a0,a1] w R:=
 tz 68 [(.tmp 4)] (s z (s (s z (i (s z (s (s z (i (s z z) z)) (s z z))) z)) (s z (s (s z (i (s z z) z)) (s (s z (i (s (r (.staged [0,0,2,6,14,0,32,96,224,480,1022,2047,4095,8191])) (s z z)) z)) (s z (s (s z (i (s z z) z)) (s z z)))))))) [a0,a1] func276 h
def Vz278:VT2:=λP c e w R=>
 Lnl c λf=>Cl P 287 #[c,f,e] w λk g=>R (.tuple #[]) g
theorem Tz278 (h:Vz278 prog a0 a1 w R):Cl prog 278 #[a0,a1] w R:=
 tz 9 [] z [a0,a1] func278 h
def Vz279:VT3:=λP f g e w R=>
 Dr w λc=>Ld e c λk=>Ias 1 k f λm=>Ld m c λp=>Ld e c λq=>Ias 1 q g λt=>Ld t c λu=>Cl P 280 #[p,u] c λv y=>R v y
theorem Tz279 (h:Vz279 prog a0 a1 a2 w R):Cl prog 279 #[a0,a1,a2] w R:=
 tz 15 [(.tmp 5)] (s z (s (r (.staged [0,0,3,7,0,0,48,112,255,511])) z)) [a0,a1,a2] func279 h
def Vz280:VT2:=λP e f w R=>
 Cl P 288 #[e] w λk m=>Cl P 288 #[f] m λg c=>Vif k (Vif g (R (I 0) c) (R (I (-1)) c)) (Vif g (R (I 1) c) (Bv .lss e f (R (I (-1)) c) (Bv .gtr e f (R (I 1) c) (R (I 0) c))))
theorem Tz280 (h:Vz280 prog a0 a1 w R):Cl prog 280 #[a0,a1] w R:=
 tz 20 [(.tmp 4)] (s z (s z (s z (s (s z (i (s (s z (i (s z z) z)) (s z z)) z)) (s (s z (i (s z z) z)) (s (s z (i (s z z) z)) (s (s z (i (s z z) z)) (s z z)))))))) [a0,a1] func280 h
def Vz281:VT1:=λP c w R=>
 Nc c<|Fo 9 c λe=>St e (.bool true) w λf=>R (I 25) f
theorem Tz281 (h:Vz281 prog a0 w R):Cl prog 281 #[a0] w R:=
 tz 6 [(.tmp 2)] (s z (s z (s z z))) [a0] func281 h
def Vz282:VT2:=λP c e w R=>
 Cl P 197 #[e] w λg f=>Up .not g λk=>Vif k (Nc c<|Fo 3 c λm=>St m (.bool true) f λp=>R (I 22) p) (Nc c<|Fo 1 c λq=>St q e f λt=>R (I 0) t)
theorem Tz282 (h:Vz282 prog a0 a1 w R):Cl prog 282 #[a0,a1] w R:=
 tz 15 [(.tmp 4)] (s z (s (s z (i (s z (s z z)) z)) (s z (s z z)))) [a0,a1] func282 h
def Vz287:VT3:=λP e c f w R=>
 VLoop 2 [(I 0),(I 20)] w λ_ D t k u=>Bv .leq k c (Cl P 293 #[e,t,k,f] u λa1 E=>Bp .add k (I 20) λF=>KS [e,c,f,(I 20)]<|D k F E) (Cl P 293 #[e,t,c,f] u λa2 G=>VLoop 1 [(I 20)] G λ_ v g y=>Bp .lss g c λJ=>Vif J (Bp .mul (I 2) g λL=>VLoop 2 [(I 0),L] y λ_ M m p q=>Bp .leq p c λN=>Vif N (Bp .add m g λO=>Cl P 294 #[e,m,O,p,f] q λa3 Q=>Bp .mul (I 2) g λS=>Bp .add p S λU=>KS [e,c,f,g]<|M p U Q) (Bp .add m g λC=>Bp .lss C c λW=>Vif W (Cl P 294 #[e,m,C,c,f] q λa4 Y=>Bp .mul g (I 2) λZ=>KS [e,c,f]<|v Z Y) (Bp .mul g (I 2) λa0=>KS [e,c,f]<|v a0 q))) (R (.tuple #[]) y))
theorem Tz287 (h:Vz287 prog a0 a1 a2 w R):Cl prog 287 #[a0,a1,a2] w R:=
 tz 63 [] (s z (s z (s (b (l [7,8] [0,1,2,6] (s (s z (i z z)) (b (s z (s z z)))))) (s z (b (l [6] [0,1,2] (s (s z (i z z)) (b (s z (s (b (l [7,8] [0,1,2,6] (s (s z (i z z)) (b (s z (s z z)))))) (s (s z (s z (i z z))) z))))))))))) [a0,a1,a2] func287 h
def Vz288:VT1:=λP c w R=>
 Bp .neq c c λe=>R e w
theorem Tz288 (h:Vz288 prog a0 w R):Cl prog 288 #[a0] w R:=
 tz 6 [(.tmp 2)] (s z (s z z)) [a0] func288 h
def Vz293:VT4:=λP c f k m w R=>
 Bp .add f (I 1) λv=>VLoop 1 [v] w λ_ y g t=>Bp .lss g k λC=>Vif C (VLoop 1 [g] t λ_ D e E=>VJoin 1 (λ_ F u=>Vif F (Dr u λq=>Bp .sub e (I 1) λG=>Bp .sub e (I 1) λJ=>Ias 1 c J λL=>Ld L q λM=>Ias 1 c e λN=>Ld N q λO=>Ias 1 c e λQ=>St Q M q λS=>Ias 1 c G λU=>St U O S λW=>Bp .sub e (I 1) λY=>KS [c,f,k,m,g]<|D Y W) (Bp .add g (I 1) λZ=>KS [c,f,k,m]<|y Z u)) (λJ20=>Dr E λp=>Bp .gtr e f λa0=>Vif a0 (Ias 1 c e λa1=>Ld a1 p λa2=>Bp .sub e (I 1) λa3=>Ias 1 c a3 λa4=>Ld a4 p λa5=>Inv P (do let d <-Deferred.ofValue m #[a2,a5];invoke d.target d.args) p λa6 a7=>Bp .lss a6 (I 0) λa8=>KS [c,f,k,m,g,e]<|J20 a8 a7) (KS [c,f,k,m,g,e]<|J20 (.bool false) p))) (R (.tuple #[]) t)
theorem Tz293 (h:Vz293 prog a0 a1 a2 a3 w R):Cl prog 293 #[a0,a1,a2,a3] w R:=
 tz 53 [] (s z (b (l [8] [0,1,2,3] (s (s z (i z z)) (s (b (s z (b (l [9] [0,1,2,3,8] (s (j [34] [0,1,2,3,8,9] (r (.staged [0,0,3,7,15,15,15,111,239,15,15,1039,3599,7695,16383,32767,65535])) (i z z)) (s (b (r (.staged [0,0,0,0,8,0,0,64,224,480,0,0,3072,7168,16355,32739,65535,131071]))) z)))))) z))))) [a0,a1,a2,a3] func293 h
def Vz294:VT5:=λP c g k m e w R=>
 Bp .sub k g λb3=>Bp .eql b3 (I 1) λb4=>Vif b4 (VLoop 2 [k,m] w λ_ Y y E Z=>Bv .lss y E (Bp .add y E λb5=>Ci .u64 b5 λb6=>Bp .shr b6 (.int .u64 1) λb7=>Ci .i64 b7 λF=>Dr Z λG=>Ias 1 c F λb8=>Ld b8 G λb9=>Ias 1 c g λc0=>Ld c0 G λc1=>Inv P (do let d <-Deferred.ofValue e #[b9,c1];invoke d.target d.args) G λc2 a0=>Bp .lss c2 (I 0) λc3=>Vif c3 (Bp .add F (I 1) λc4=>KS [c,g,e]<|Y c4 E a0) (KS [c,g,e]<|Y y F a0)) (VLoop 1 [g] Z λ_ c5 u a1=>Bp .sub y (I 1) λc6=>Bp .lss u c6 λc7=>Vif c7 (Dr a1 λJ=>Bp .add u (I 1) λc8=>Bp .add u (I 1) λc9=>Ias 1 c c9 λd0=>Ld d0 J λd1=>Ias 1 c u λd2=>Ld d2 J λd3=>Ias 1 c u λd4=>St d4 d1 J λd5=>Ias 1 c c8 λd6=>St d6 d3 d5 λd7=>Bp .add u (I 1) λd8=>KS [c,y]<|c5 d8 d7) (R (.tuple #[]) a1))) (Bp .sub m k λd9=>Bp .eql d9 (I 1) λe0=>Vif e0 (VLoop 2 [g,k] w λ_ a2 C L a3=>Bv .lss C L (Bp .add C L λe1=>Ci .u64 e1 λe2=>Bp .shr e2 (.int .u64 1) λe3=>Ci .i64 e3 λM=>Dr a3 λN=>Ias 1 c k λe4=>Ld e4 N λe5=>Ias 1 c M λe6=>Ld e6 N λe7=>Inv P (do let d <-Deferred.ofValue e #[e5,e7];invoke d.target d.args) N λe8 a4=>Bp .lss e8 (I 0) λe9=>Up .not e9 λf0=>Vif f0 (Bp .add M (I 1) λf1=>KS [c,k,e]<|a2 f1 L a4) (KS [c,k,e]<|a2 C M a4)) (VLoop 1 [k] a3 λ_ f2 v a5=>Bp .gtr v C λf3=>Vif f3 (Dr a5 λO=>Bp .sub v (I 1) λf4=>Bp .sub v (I 1) λf5=>Ias 1 c f5 λf6=>Ld f6 O λf7=>Ias 1 c v λf8=>Ld f8 O λf9=>Ias 1 c v λg0=>St g0 f7 O λg1=>Ias 1 c f4 λg2=>St g2 f9 g1 λg3=>Bp .sub v (I 1) λg4=>KS [c,C]<|f2 g4 g3) (R (.tuple #[]) a5))) (Bp .add g m λg5=>Ci .u64 g5 λg6=>Bp .shr g6 (.int .u64 1) λg7=>Ci .i64 g7 λf=>Bp .add f k λt=>VJoin 2 (λ_ g8 g9 h0=>Bp .sub t (I 1) λQ=>VLoop 2 [g8,g9] h0 λ_ a6 p S U=>Bp .lss p S λh1=>Vif h1 (Bp .add p S λh2=>Ci .u64 h2 λh3=>Bp .shr h3 (.int .u64 1) λh4=>Ci .i64 h4 λD=>Dr U λW=>Bp .sub Q D λh5=>Ias 1 c h5 λh6=>Ld h6 W λh7=>Ias 1 c D λh8=>Ld h8 W λh9=>Inv P (do let d <-Deferred.ofValue e #[h7,h9];invoke d.target d.args) W λi0 a7=>Bp .lss i0 (I 0) λi1=>Up .not i1 λi2=>Vif i2 (Bp .add D (I 1) λi3=>KS [c,g,k,m,e,f,t,Q]<|a6 i3 S a7) (KS [c,g,k,m,e,f,t,Q]<|a6 p D a7)) (Bp .sub t p λq=>VJoin 0 (λ_ a8=>VJoin 0 (λ_ a9=>VJoin 1 (λ_ i4 b0=>Vif i4 (Cl P 294 #[c,f,q,m,e] b0 λj8 i5=>R (.tuple #[]) i5) (R (.tuple #[]) b0)) (λJ99=>Bp .lss f q λi6=>Vif i6 (Bp .lss q m λi7=>KS [c,m,e,f,q]<|J99 i7 a9) (KS [c,m,e,f,q]<|J99 (.bool false) a9))) (λJ102=>VJoin 1 (λ_ i8 b1=>Vif i8 (Cl P 294 #[c,g,p,f,e] b1 λj9 i9=>KS [c,m,e,f,q]<|J102 i9) (KS [c,m,e,f,q]<|J102 b1)) (λJ105=>Bp .lss g p λj0=>Vif j0 (Bp .lss p f λj1=>KS [c,g,m,e,f,p,q]<|J105 j1 a8) (KS [c,g,m,e,f,p,q]<|J105 (.bool false) a8)))) (λJ108=>VJoin 1 (λ_ j2 b2=>Vif j2 (Cl P 296 #[c,p,k,q,e] b2 λk0 j3=>KS [c,g,m,e,f,p,q]<|J108 j3) (KS [c,g,m,e,f,p,q]<|J108 b2)) (λJ111=>Bp .lss p k λj4=>Vif j4 (Bp .lss k q λj5=>KS [c,g,k,m,e,f,p,q]<|J111 j5 U) (KS [c,g,k,m,e,f,p,q]<|J111 (.bool false) U))))) (λJ114=>Bp .gtr k f λj6=>Vif j6 (Bp .sub t m λj7=>KS [c,g,k,m,e,f,t]<|J114 j7 f w) (KS [c,g,k,m,e,f,t]<|J114 g k w))))
theorem Tz294 (h:Vz294 prog a0 a1 a2 a3 a4 w R):Cl prog 294 #[a0,a1,a2,a3,a4] w R:=
 tz 220 [] (s (s z (i (s z (s z (s (b (l [10,11] [0,1,4] (s (s z (i z z)) (b (s z (s (r (.staged [0,0,0,6,14,0,0,96,224,511,1023])) (i z z))))))) (s (s z (b (l [13] [0,10] (s (s z (i z z)) (s (b (r (.staged [0,0,0,0,8,0,0,64,224,480,0,0,3072,7168,16355,32739,65535,131071]))) z))))) z)))) z)) (s (s z (i (s z (s z (s (b (l [14,15] [0,2,4] (s (s z (i z z)) (b (s z (s (r (.staged [0,0,0,6,14,0,0,96,224,511,1023,2047])) (i z z))))))) (s (s z (b (l [17] [0,14] (s (s z (i z z)) (s (b (r (.staged [0,0,0,0,8,0,0,64,224,480,0,0,3072,7168,16355,32739,65535,131071]))) z))))) z)))) z)) (s z (s z (s z (j [20,21] [0,1,2,3,4,18,19] (s z (i (s z z) (s z z))) (s z (s (b (l [20,21] [0,1,2,3,4,18,19,22] (s (s z (i z z)) (b (s z (s (r (.staged [0,0,0,0,12,30,62,0,0,384,896,2047,4095,8191])) (i z z))))))) (s z (j [] [0,1,3,4,18,20,24] (j [185] [0,1,2,3,4,18,20,24] z (i z z)) (j [] [0,3,4,18,24] (j [199] [0,1,3,4,18,20,24] z (i z z)) (j [213] [0,3,4,18,24] z (i z z))))))))))))) [a0,a1,a2,a3,a4] func294 h
def Vz296:VT5:=λP g q e t k w R=>
 Bp .sub e q λu=>Bp .sub t e λv=>VLoop 2 [u,v] w λ_ p c f m=>Bp .neq c f λy=>Vif y (Bv .gtr c f (Bp .sub e c λC=>Cl P 297 #[g,C,e,f,k] m λQ D=>Bp .sub c f λE=>KS [g,e,k]<|p E f D) (Bp .sub e c λF=>Bp .add e f λG=>Bp .sub G c λJ=>Cl P 297 #[g,F,J,c,k] m λS L=>Bp .sub f c λM=>KS [g,e,k]<|p c M L)) (Bp .sub e c λN=>Cl P 297 #[g,N,e,c,k] m λU O=>R (.tuple #[]) O)
theorem Tz296 (h:Vz296 prog a0 a1 a2 a3 a4 w R):Cl prog 296 #[a0,a1,a2,a3,a4] w R:=
 tz 58 [] (s z (s z (s (b (l [10,11] [0,2,4] (s (s z (i z z)) (b (s z (i (s z z) (s z z))))))) z))) [a0,a1,a2,a3,a4] func296 h
def Vz297:VT5:=λP e f g m O w R=>
 VLoop 1 [(I 0)] w λ_ q c p=>Bv .lss c m (Dr p λk=>Bp .add f c λt=>Bp .add g c λu=>Bp .add g c λv=>Ias 1 e v λy=>Ld y k λC=>Bp .add f c λD=>Ias 1 e D λE=>Ld E k λF=>Ias 1 e t λG=>St G C k λJ=>Ias 1 e u λL=>St L F J λM=>Bp .add c (I 1) λN=>KS [e,f,g,m]<|q N M) (R (.tuple #[]) p)
theorem Tz297 (h:Vz297 prog a0 a1 a2 a3 a4 w R):Cl prog 297 #[a0,a1,a2,a3,a4] w R:=
 tz 38 [] (s z (b (l [10] [0,1,2,3] (s (s z (i z z)) (s (b (r (.staged [0,0,0,6,0,0,0,96,0,0,0,1536,3840,7936,0,0,0,98304,245760,507904,1048335,2096911,4194303,8388607]))) z))))) [a0,a1,a2,a3,a4] func297 h
end Go.Proofs.YtgaiocpkjaaphaaGreatDoor
