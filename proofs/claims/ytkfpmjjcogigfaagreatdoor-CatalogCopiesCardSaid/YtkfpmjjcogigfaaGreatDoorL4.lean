/- joined texts -/
import Derived.Test.YtkfpmjjcogigfaaGreatDoorL3
import Derived.Test.YtkfpmjjcogigfaaGreatDoorProg
set_option linter.all false
namespace Go.Wk
open Go.Proofs
noncomputable abbrev TP:=Tryz.prog
abbrev Pt(b:Nat):Va:=.pointer (some ⟨b,0,none⟩)
abbrev Ii(i:Int):Va:=.int .i64 i
def ag2:zag TP 2=some false:=by kernel_rfl
def ag3:zag TP 3=some false:=by kernel_rfl
def ag4:zag TP 4=some false:=by kernel_rfl
def ag5:zag TP 5=some false:=by kernel_rfl
def yI:zag TP 9=some false:=by kernel_rfl
def zkD:zag TP 28=some false:=by kernel_rfl
def zeI:zag TP 30=some false:=by kernel_rfl
def za9:zag TP 31=some false:=by kernel_rfl
def zci:zag TP 32=some false:=by kernel_rfl
def zcL:zag TP 33=some false:=by kernel_rfl
def zaX:zag TP 35=some true:=by kernel_rfl
def yU:zag TP 36=some false:=by kernel_rfl
def zcC:zag TP 37=some false:=by kernel_rfl
def zbO:zag TP 39=some true:=by kernel_rfl
def zbz:zag TP 46=some false:=by kernel_rfl
def zbv:zag TP 48=some true:=by kernel_rfl
def zio:zag TP 52=some false:=by kernel_rfl
def zta:zag TP 64=some false:=by kernel_rfl
def zc9:zag TP 65=some false:=by kernel_rfl
def zaG:zag TP 67=some true:=by kernel_rfl
def zq4:zag TP 78=some true:=by kernel_rfl
def zDS:zag TP 80=some false:=by kernel_rfl
def zej:zag TP 81=some false:=by kernel_rfl
def zyj:zag TP 87=some false:=by kernel_rfl
def zDy:zag TP 98=some true:=by kernel_rfl
def zuc:zag TP 105=some false:=by kernel_rfl
def zbS:zag TP 108=some false:=by kernel_rfl
def zb2:zag TP 109=some false:=by kernel_rfl
def zaJ:zag TP 111=some true:=by kernel_rfl
def zjK:zag TP 112=some false:=by kernel_rfl
def zcI:zag TP 114=some true:=by kernel_rfl
def zfV:zag TP 120=some false:=by kernel_rfl
def ziT:zag TP 121=some false:=by kernel_rfl
def zhA:zag TP 126=some true:=by kernel_rfl
def zhc:zag TP 137=some true:=by kernel_rfl
def zAG:zag TP 156=some false:=by kernel_rfl
def zce:zag TP 173=some false:=by kernel_rfl
def zeE:zag TP 176=some false:=by kernel_rfl
def zBU:zag TP 182=some false:=by kernel_rfl
def zqm:zag TP 189=some true:=by kernel_rfl
def zz3:zag TP 192=some false:=by kernel_rfl
def zqK:zag TP 215=some true:=by kernel_rfl
def zhe:zag TP 224=some false:=by kernel_rfl
def zBj:zag TP 240=some false:=by kernel_rfl
def zBi:zag TP 277=some false:=by kernel_rfl
def zsA:zag TP 327=some true:=by kernel_rfl
def zp7:zag TP 331=some false:=by kernel_rfl
def zCv:zag TP 347=some false:=by kernel_rfl
def zBy:zag TP 380=some false:=by kernel_rfl
def zC1:zag TP 382=some false:=by kernel_rfl
def zBq:zag TP 388=some false:=by kernel_rfl
def zwO:zag TP 397=some true:=by kernel_rfl
def zCF:zag TP 443=some false:=by kernel_rfl
def zqU:zl5 TP 74=some (2,39):=by kernel_rfl
def zco:zl5 TP 78=some (2,9):=by kernel_rfl
def zk8:zl5 TP 397=some (2,176):=by kernel_rfl
def zpK:zl5 TP 426=some (9,5):=by kernel_rfl
def bd8:zn TP 8=true:=by kernel_rfl
def bd9:zn TP 9=true:=by kernel_rfl
def zxX:zn TP 10=true:=by kernel_rfl
def zAj:zn TP 11=true:=by kernel_rfl
def znS:zn TP 12=true:=by kernel_rfl
def zi2:zn TP 13=true:=by kernel_rfl
def zu3:zn TP 14=true:=by kernel_rfl
def zDc:zn TP 16=true:=by kernel_rfl
def zyD:zn TP 17=true:=by kernel_rfl
def zCJ:zn TP 18=true:=by kernel_rfl
def zAW:zn TP 19=true:=by kernel_rfl
def zDp:zn TP 20=true:=by kernel_rfl
def ztR:zn TP 21=true:=by kernel_rfl
def zyB:zn TP 22=true:=by kernel_rfl
def zBe:zn TP 24=true:=by kernel_rfl
def zyQ:zn TP 25=true:=by kernel_rfl
def zDr:zn TP 26=true:=by kernel_rfl
def zDG:zn TP 27=true:=by kernel_rfl
def zC8:zn TP 28=true:=by kernel_rfl
def zzz:zn TP 29=true:=by kernel_rfl
def zB2:zn TP 30=true:=by kernel_rfl
def zB6:zn TP 31=true:=by kernel_rfl
def zww:zn TP 32=true:=by kernel_rfl
def zAp:zn TP 33=true:=by kernel_rfl
def zDR:zn TP 34=true:=by kernel_rfl
def zDD:zn TP 35=true:=by kernel_rfl
def zC7:zn TP 36=true:=by kernel_rfl
def zAJ:zn TP 37=true:=by kernel_rfl
def zAN:zn TP 38=true:=by kernel_rfl
def zDt:zn TP 39=true:=by kernel_rfl
def zzj:zn TP 40=true:=by kernel_rfl
def zyO:zn TP 41=true:=by kernel_rfl
def zDs:zn TP 42=true:=by kernel_rfl
def zDH:zn TP 43=true:=by kernel_rfl
def zyc:zn TP 44=true:=by kernel_rfl
def zDU:zn TP 45=true:=by kernel_rfl
def zzy:zn TP 46=true:=by kernel_rfl
def ziZ:zn TP 47=true:=by kernel_rfl
def zDg:zn TP 48=true:=by kernel_rfl
def zDv:zn TP 49=true:=by kernel_rfl
def zvi:zn TP 50=true:=by kernel_rfl
def zAh:zn TP 51=true:=by kernel_rfl
def zCs:zn TP 52=true:=by kernel_rfl
def zr1:zn TP 53=true:=by kernel_rfl
def zDo:zn TP 54=true:=by kernel_rfl
def zzB:zn TP 55=true:=by kernel_rfl
def zAm:zn TP 56=true:=by kernel_rfl
def zDl:zn TP 57=true:=by kernel_rfl
def zuF:zn TP 58=true:=by kernel_rfl
def zuv:zn TP 59=true:=by kernel_rfl
def zvD:zn TP 60=true:=by kernel_rfl
def zDI:zn TP 61=true:=by kernel_rfl
def zvy:zn TP 62=true:=by kernel_rfl
def zC6:zn TP 63=true:=by kernel_rfl
def zDA:zn TP 64=true:=by kernel_rfl
def zC3:zn TP 65=true:=by kernel_rfl
def zDb:zn TP 66=true:=by kernel_rfl
def zDn:zn TP 67=true:=by kernel_rfl
def zDk:zn TP 68=true:=by kernel_rfl
def zoH:zn TP 69=true:=by kernel_rfl
def zqT:zn TP 70=true:=by kernel_rfl
def zAk:zn TP 71=true:=by kernel_rfl
def zyo:zn TP 72=true:=by kernel_rfl
def zgn:zn TP 73=true:=by kernel_rfl
def zwn:zn TP 74=true:=by kernel_rfl
def zkI:zn TP 75=true:=by kernel_rfl
def zv3:zn TP 76=true:=by kernel_rfl
def zAs:zn TP 77=true:=by kernel_rfl
def zz1:zn TP 78=true:=by kernel_rfl
def zis:zn TP 79=true:=by kernel_rfl
def zx1:zn TP 80=true:=by kernel_rfl
def zDJ:zn TP 81=true:=by kernel_rfl
def zuB:zn TP 82=true:=by kernel_rfl
def zu9:zn TP 83=true:=by kernel_rfl
def zDF:zn TP 84=true:=by kernel_rfl
def zDT:zn TP 85=true:=by kernel_rfl
def zDu:zn TP 86=true:=by kernel_rfl
def zDm:zn TP 87=true:=by kernel_rfl
def zDQ:zn TP 88=true:=by kernel_rfl
def zxZ:zn TP 89=true:=by kernel_rfl
def zBf:zn TP 90=true:=by kernel_rfl
def zCW:zn TP 91=true:=by kernel_rfl
def zDO:zn TP 92=true:=by kernel_rfl
def zA9:zn TP 93=true:=by kernel_rfl
def zCz:zn TP 94=true:=by kernel_rfl
def zC4:zn TP 95=true:=by kernel_rfl
def zDM:zn TP 96=true:=by kernel_rfl
def zth:zn TP 97=true:=by kernel_rfl
def zDx:zn TP 98=true:=by kernel_rfl
def zDj:zn TP 99=true:=by kernel_rfl
def zm9:zn TP 100=true:=by kernel_rfl
def zzX:zn TP 101=true:=by kernel_rfl
def zzV:zn TP 102=true:=by kernel_rfl
def zz5:zn TP 106=true:=by kernel_rfl
def zpq:zn TP 107=true:=by kernel_rfl
def zk5:zn TP 108=true:=by kernel_rfl
def zBl:zn TP 109=true:=by kernel_rfl
def zzZ:zn TP 110=true:=by kernel_rfl
def zB4:zn TP 111=true:=by kernel_rfl
def zsd:zn TP 112=true:=by kernel_rfl
def zAf:zn TP 113=true:=by kernel_rfl
def zzK:zn TP 114=true:=by kernel_rfl
def zs6:zn TP 115=true:=by kernel_rfl
def zr0:zn TP 116=true:=by kernel_rfl
def zB8:zn TP 117=true:=by kernel_rfl
def zAF:zn TP 118=true:=by kernel_rfl
def zwD:zn TP 119=true:=by kernel_rfl
def ztU:zn TP 120=true:=by kernel_rfl
def zsr:zn TP 121=true:=by kernel_rfl
def zqs:zn TP 122=true:=by kernel_rfl
def zqB:zn TP 123=true:=by kernel_rfl
def zxL:zn TP 124=true:=by kernel_rfl
def zBK:zn TP 125=true:=by kernel_rfl
def zBX:zn TP 126=true:=by kernel_rfl
def zAL:zn TP 127=true:=by kernel_rfl
def zAr:zn TP 128=true:=by kernel_rfl
def znU:zn TP 129=true:=by kernel_rfl
def zA2:zn TP 130=true:=by kernel_rfl
def zrP:zn TP 131=true:=by kernel_rfl
def zzL:zn TP 132=true:=by kernel_rfl
def zma:zn TP 133=true:=by kernel_rfl
def zwM:zn TP 134=true:=by kernel_rfl
def zCD:zn TP 135=true:=by kernel_rfl
def zCU:zn TP 136=true:=by kernel_rfl
def zwQ:zn TP 137=true:=by kernel_rfl
def znG:zn TP 138=true:=by kernel_rfl
def zzI:zn TP 139=true:=by kernel_rfl
def zxw:zn TP 140=true:=by kernel_rfl
def zxG:zn TP 141=true:=by kernel_rfl
def zxB:zn TP 142=true:=by kernel_rfl
def zAg:zn TP 143=true:=by kernel_rfl
def zuD:zn TP 144=true:=by kernel_rfl
def zAu:zn TP 146=true:=by kernel_rfl
def zzA:zn TP 151=true:=by kernel_rfl
def zBc:zn TP 153=true:=by kernel_rfl
def zpW:zn TP 154=true:=by kernel_rfl
def zAv:zn TP 157=true:=by kernel_rfl
def zlb:zn TP 158=true:=by kernel_rfl
def zBE:zn TP 163=true:=by kernel_rfl
def zAM:zn TP 164=true:=by kernel_rfl
def zwG:zn TP 166=true:=by kernel_rfl
def zsI:zn TP 169=true:=by kernel_rfl
def zA3:zn TP 170=true:=by kernel_rfl
def zw6:zn TP 174=true:=by kernel_rfl
def zzN:zn TP 175=true:=by kernel_rfl
def zxs:zn TP 176=true:=by kernel_rfl
def zud:zn TP 177=true:=by kernel_rfl
def zBH:zn TP 178=true:=by kernel_rfl
def zAd:zn TP 179=true:=by kernel_rfl
def zBI:zn TP 181=true:=by kernel_rfl
def zBF:zn TP 182=true:=by kernel_rfl
def zBr:zn TP 183=true:=by kernel_rfl
def zzY:zn TP 184=true:=by kernel_rfl
def zAU:zn TP 185=true:=by kernel_rfl
def zAn:zn TP 186=true:=by kernel_rfl
def zCI:zn TP 187=true:=by kernel_rfl
def zCa:zn TP 188=true:=by kernel_rfl
def zwP:zn TP 189=true:=by kernel_rfl
def zwF:zn TP 190=true:=by kernel_rfl
def zwU:zn TP 191=true:=by kernel_rfl
def zBT:zn TP 192=true:=by kernel_rfl
def zA4:zn TP 193=true:=by kernel_rfl
def zA8:zn TP 194=true:=by kernel_rfl
def zwN:zn TP 195=true:=by kernel_rfl
def zxp:zn TP 196=true:=by kernel_rfl
def zj1:zn TP 197=true:=by kernel_rfl
def zz2:zn TP 198=true:=by kernel_rfl
def zC2:zn TP 199=true:=by kernel_rfl
def zwY:zn TP 200=true:=by kernel_rfl
def zw4:zn TP 201=true:=by kernel_rfl
def zCV:zn TP 202=true:=by kernel_rfl
def zBZ:zn TP 203=true:=by kernel_rfl
def zBD:zn TP 207=true:=by kernel_rfl
def zCG:zn TP 208=true:=by kernel_rfl
def zxQ:zn TP 209=true:=by kernel_rfl
def zAe:zn TP 211=true:=by kernel_rfl
def zCk:zn TP 214=true:=by kernel_rfl
def zle:zn TP 216=true:=by kernel_rfl
def zw5:zn TP 218=true:=by kernel_rfl
def zpL:zn TP 219=true:=by kernel_rfl
def zxb:zn TP 220=true:=by kernel_rfl
def zw9:zn TP 222=true:=by kernel_rfl
def zxJ:zn TP 223=true:=by kernel_rfl
def zAw:zn TP 224=true:=by kernel_rfl
def zBB:zn TP 225=true:=by kernel_rfl
def zzD:zn TP 226=true:=by kernel_rfl
def zBO:zn TP 227=true:=by kernel_rfl
def zz7:zn TP 228=true:=by kernel_rfl
def zBC:zn TP 229=true:=by kernel_rfl
def zxu:zn TP 230=true:=by kernel_rfl
def zw3:zn TP 231=true:=by kernel_rfl
def zBn:zn TP 232=true:=by kernel_rfl
def zAx:zn TP 234=true:=by kernel_rfl
def zwL:zn TP 235=true:=by kernel_rfl
def zxn:zn TP 241=true:=by kernel_rfl
def zwK:zn TP 245=true:=by kernel_rfl
def ztB:zn TP 246=true:=by kernel_rfl
def zBk:zn TP 247=true:=by kernel_rfl
def zB0:zn TP 248=true:=by kernel_rfl
def zwC:zn TP 249=true:=by kernel_rfl
def zBb:zn TP 250=true:=by kernel_rfl
def zwR:zn TP 251=true:=by kernel_rfl
def zkZ:zn TP 252=true:=by kernel_rfl
def zCK:zn TP 254=true:=by kernel_rfl
def zAc:zn TP 255=true:=by kernel_rfl
def zBA:zn TP 256=true:=by kernel_rfl
def zAY:zn TP 257=true:=by kernel_rfl
def zCE:zn TP 259=true:=by kernel_rfl
def zA1:zn TP 260=true:=by kernel_rfl
def zCg:zn TP 262=true:=by kernel_rfl
def zBa:zn TP 265=true:=by kernel_rfl
def zBG:zn TP 267=true:=by kernel_rfl
def zzS:zn TP 270=true:=by kernel_rfl
def zA0:zn TP 273=true:=by kernel_rfl
def zzW:zn TP 276=true:=by kernel_rfl
def zCo:zn TP 278=true:=by kernel_rfl
def zCl:zn TP 280=true:=by kernel_rfl
def zxF:zn TP 281=true:=by kernel_rfl
def zAA:zn TP 282=true:=by kernel_rfl
def zA6:zn TP 286=true:=by kernel_rfl
def zCZ:zn TP 289=true:=by kernel_rfl
def zAl:zn TP 291=true:=by kernel_rfl
def zxc:zn TP 296=true:=by kernel_rfl
def ztN:zn TP 297=true:=by kernel_rfl
def zpA:zn TP 298=true:=by kernel_rfl
def zA7:zn TP 299=true:=by kernel_rfl
def zzH:zn TP 300=true:=by kernel_rfl
def zw7:zn TP 301=true:=by kernel_rfl
def zxy:zn TP 302=true:=by kernel_rfl
def zC0:zn TP 303=true:=by kernel_rfl
def zAS:zn TP 304=true:=by kernel_rfl
def zAQ:zn TP 306=true:=by kernel_rfl
def zCr:zn TP 307=true:=by kernel_rfl
def zxh:zn TP 308=true:=by kernel_rfl
def zAt:zn TP 309=true:=by kernel_rfl
def zB1:zn TP 310=true:=by kernel_rfl
def zwJ:zn TP 311=true:=by kernel_rfl
def zCB:zn TP 312=true:=by kernel_rfl
def zxq:zn TP 313=true:=by kernel_rfl
def zCY:zn TP 319=true:=by kernel_rfl
def zpU:zn TP 320=true:=by kernel_rfl
def zBJ:zn TP 321=true:=by kernel_rfl
def zCp:zn TP 322=true:=by kernel_rfl
def zCn:zn TP 329=true:=by kernel_rfl
def zAP:zn TP 330=true:=by kernel_rfl
def zxH:zn TP 331=true:=by kernel_rfl
def zAO:zn TP 332=true:=by kernel_rfl
def zBz:zn TP 333=true:=by kernel_rfl
def zAX:zn TP 334=true:=by kernel_rfl
def zBu:zn TP 335=true:=by kernel_rfl
def zxm:zn TP 338=true:=by kernel_rfl
def zzT:zn TP 339=true:=by kernel_rfl
def zz0:zn TP 340=true:=by kernel_rfl
def zCf:zn TP 341=true:=by kernel_rfl
def zAR:zn TP 342=true:=by kernel_rfl
def zBs:zn TP 343=true:=by kernel_rfl
def zAa:zn TP 344=true:=by kernel_rfl
def zBx:zn TP 351=true:=by kernel_rfl
def zAV:zn TP 352=true:=by kernel_rfl
def zsq:zn TP 353=true:=by kernel_rfl
def zzR:zn TP 354=true:=by kernel_rfl
def zBt:zn TP 355=true:=by kernel_rfl
def zCM:zn TP 356=true:=by kernel_rfl
def ztt:zn TP 362=true:=by kernel_rfl
def zCm:zn TP 363=true:=by kernel_rfl
def zBg:zn TP 366=true:=by kernel_rfl
def zwI:zn TP 386=true:=by kernel_rfl
def zxM:zn TP 391=true:=by kernel_rfl
def zxk:zn TP 404=true:=by kernel_rfl
def bo4:zrT TP 4=true:=by kernel_rfl
def zqc:zt9 TP 111 [0,0,0,1]=true:=by kernel_rfl
def zxj:zt9 TP 114 [1,0,0,2]=true:=by kernel_rfl
def yp:zbo TP 35 0=some 0:=by kernel_rfl
def zbp:zbo TP 35 1=some 1:=by kernel_rfl
def zay:zbo TP 35 2=some 2:=by kernel_rfl
def zbA:zbo TP 39 0=some 0:=by kernel_rfl
def yd:zbo TP 39 1=some 1:=by kernel_rfl
def zbc:zbo TP 39 2=some 2:=by kernel_rfl
def y6:zbo TP 39 3=some 5:=by kernel_rfl
def zaY:zbo TP 39 4=some 6:=by kernel_rfl
def zaa:zbo TP 39 5=some 7:=by kernel_rfl
def yw:zbo TP 48 0=some 0:=by kernel_rfl
def zeF:zbo TP 67 0=some 0:=by kernel_rfl
def zar:zbo TP 67 1=some 3:=by kernel_rfl
def za4:zbo TP 83 0=some 0:=by kernel_rfl
def zdb:zbo TP 98 0=some 0:=by kernel_rfl
def zfK:zbo TP 98 1=some 1:=by kernel_rfl
def zal:zbo TP 111 0=some 0:=by kernel_rfl
def yz:zbo TP 111 1=some 1:=by kernel_rfl
def zaT:zbo TP 111 2=some 2:=by kernel_rfl
def zaK:zbo TP 111 3=some 3:=by kernel_rfl
def zbU:zbo TP 114 0=some 0:=by kernel_rfl
def zfI:zbo TP 114 1=some 1:=by kernel_rfl
def zbG:zbo TP 114 2=some 2:=by kernel_rfl
def zfB:zbo TP 114 3=some 3:=by kernel_rfl
def zeQ:zbo TP 123 0=some 0:=by kernel_rfl
def zda:zbo TP 123 1=some 1:=by kernel_rfl
def zdS:zbo TP 123 2=some 4:=by kernel_rfl
def zpY:zbo TP 126 0=some 0:=by kernel_rfl
def zjg:zbo TP 126 1=some 1:=by kernel_rfl
def zhF:zbo TP 137 0=some 0:=by kernel_rfl
def zuJ:zbo TP 169 1=some 1:=by kernel_rfl
def zat:zbo TP 178 0=some 0:=by kernel_rfl
def zwl:zbo TP 199 1=some 1:=by kernel_rfl
def zhG:zbo TP 215 0=some 0:=by kernel_rfl
def zhr:zbo TP 215 1=some 1:=by kernel_rfl
def zv8:zbo TP 303 0=some 0:=by kernel_rfl
def zaU:zbo TP 327 0=some 0:=by kernel_rfl
def zhM:zbo TP 333 0=some 0:=by kernel_rfl
def zqn:zbo TP 384 0=some 0:=by kernel_rfl
def zji:zbo TP 384 1=some 1:=by kernel_rfl
def zva:zbo TP 410 1=some 1:=by kernel_rfl
def zvk:zbo TP 412 0=some 0:=by kernel_rfl
def zpX:zbo TP 412 1=some 1:=by kernel_rfl
def zwy:zbo TP 412 2=some 2:=by kernel_rfl
def zwk:zsi TP 294 0=some (0,1,false):=by kernel_rfl
def zuX:zsi TP 294 1=some (1,1,false):=by kernel_rfl
def zwp:zsi TP 310 0=some (0,1,false):=by kernel_rfl
def zBS:zn1 TP 20=true:=by kernel_rfl
def zcE:zn1 TP 87=true:=by kernel_rfl
def znk:zhu TP 260 169=some false:=by kernel_rfl
def zmH:zhu TP 260 199=some false:=by kernel_rfl
def zny:zhu TP 260 408=some false:=by kernel_rfl
def ziM:zhu TP 263 169=some true:=by kernel_rfl
def ziH:zhu TP 263 199=some true:=by kernel_rfl
def zo7:zhu TP 263 28=some false:=by kernel_rfl
def ziS:zhu TP 263 408=some true:=by kernel_rfl
def zoe:zhu TP 265 28=some false:=by kernel_rfl
def znZ:zhu TP 393 169=some false:=by kernel_rfl
def znP:zhu TP 393 199=some false:=by kernel_rfl
def zo0:zhu TP 393 28=some false:=by kernel_rfl
def zm5:zhu TP 393 408=some false:=by kernel_rfl
def zeU:zdD TP 2 .i64=true:=by kernel_rfl
def zaB:zdD TP 3 .i64=true:=by kernel_rfl
def zaZ:zdD TP 5 .u8=true:=by kernel_rfl
def zna:zdD TP 21 .i32=true:=by kernel_rfl
def znF:zdD TP 28 .i64=true:=by kernel_rfl
def zbE:zdD TP 30 .i64=true:=by kernel_rfl
def zaW:zdD TP 108 .i64=true:=by kernel_rfl
def zbC:zdD TP 109 .u64=true:=by kernel_rfl
def zaN:zdD TP 112 .i64=true:=by kernel_rfl
def zdF:zdD TP 285 .u64=true:=by kernel_rfl
def zDE:zei TP 80=some (9,52):=by kernel_rfl
def zeW:zei TP 81=some (9,52):=by kernel_rfl
def zpb:zei TP 89=some (30,88):=by kernel_rfl
def zjL:zei TP 129=some (30,127):=by kernel_rfl
def zs7:zei TP 166=some (9,3):=by kernel_rfl
def zkP:zei TP 295=some (112,294):=by kernel_rfl
def ziI:zei TP 305=some (108,303):=by kernel_rfl
def zlz:zei TP 311=some (108,310):=by kernel_rfl
def zgT:zei TP 413=some (112,412):=by kernel_rfl
def zdU:zkF TP 28=true:=by kernel_rfl
def zBw:zkF TP 81=true:=by kernel_rfl
def zpk:zkF TP 140=true:=by kernel_rfl
def znM:zkF TP 169=true:=by kernel_rfl
def zfT:zkF TP 199=true:=by kernel_rfl
def zn5:zkF TP 408=true:=by kernel_rfl
def zDq:zdJ TP 35=some [(0,1),(1,1),(2,1)]:=by kernel_rfl
def zq0:zdJ TP 39=some [(0,1),(1,1),(2,3),(5,1),(6,1),(7,1)]:=by kernel_rfl
def zzJ:zdJ TP 48=some [(0,1)]:=by kernel_rfl
def zBW:zdJ TP 67=some [(0,3),(3,1)]:=by kernel_rfl
def zDL:zdJ TP 83=some [(0,1)]:=by kernel_rfl
def zC5:zdJ TP 98=some [(0,1),(1,4)]:=by kernel_rfl
def zj4:zdJ TP 111=some [(0,1),(1,1),(2,1),(3,1)]:=by kernel_rfl
def zwH:zdJ TP 114=some [(0,1),(1,1),(2,1),(3,1)]:=by kernel_rfl
def ztm:zdJ TP 123=some [(0,1),(1,3),(4,1)]:=by kernel_rfl
def zxE:zdJ TP 126=some [(0,1),(1,1)]:=by kernel_rfl
def zp3:zdJ TP 137=some [(0,1),(1,1),(2,1)]:=by kernel_rfl
def zm6:zdJ TP 169=some [(0,1),(1,1)]:=by kernel_rfl
def zxa:zdJ TP 178=some [(0,1)]:=by kernel_rfl
def zfU:zdJ TP 199=some [(0,1),(1,1)]:=by kernel_rfl
def zxz:zdJ TP 215=some [(0,1),(1,1)]:=by kernel_rfl
def zpJ:zdJ TP 294=some [(0,1),(1,1),(2,1)]:=by kernel_rfl
def zn4:zdJ TP 303=some [(0,1),(1,1)]:=by kernel_rfl
def zne:zdJ TP 310=some [(0,1),(1,1)]:=by kernel_rfl
def zw1:zdJ TP 327=some [(0,3)]:=by kernel_rfl
def zAy:zdJ TP 333=some [(0,1)]:=by kernel_rfl
def zz6:zdJ TP 384=some [(0,1),(1,1)]:=by kernel_rfl
def zmx:zdJ TP 410=some [(0,1),(1,1)]:=by kernel_rfl
def zp0:zdJ TP 412=some [(0,1),(1,1),(2,1)]:=by kernel_rfl
def zhE:zod TP 25=true:=by kernel_rfl
def zky:zod TP 52=true:=by kernel_rfl
def zkX:zod TP 120=true:=by kernel_rfl
def zhV:zbt TP 22=some 39:=by kernel_rfl
def zaO:zbt TP 31=some 114:=by kernel_rfl
def zaH:zbt TP 32=some 3:=by kernel_rfl
def zbd:zbt TP 33=some 32:=by kernel_rfl
def yE:zbt TP 36=some 111:=by kernel_rfl
def zaF:zbt TP 37=some 78:=by kernel_rfl
def zbg:zbt TP 46=some 98:=by kernel_rfl
def zbZ:zbt TP 65=some 36:=by kernel_rfl
def zeL:zbt TP 105=some 9:=by kernel_rfl
def zfv:zbt TP 121=some 126:=by kernel_rfl
def ztA:zbt TP 127=some 137:=by kernel_rfl
def ziO:zbt TP 172=some 176:=by kernel_rfl
def zbf:zbt TP 173=some 176:=by kernel_rfl
def zj6:zbt TP 175=some 215:=by kernel_rfl
def yD:zbt TP 176=some 215:=by kernel_rfl
def y7:zbt TP 224=some 5:=by kernel_rfl
def zmg:zbt TP 286=some 2:=by kernel_rfl
def zmK:zbt TP 287=some 109:=by kernel_rfl
def zqA:zbt TP 331=some 5:=by kernel_rfl
def zxO:zbt TP 382=some 5:=by kernel_rfl
def zmM:zbt TP 399=some 33:=by kernel_rfl
def zmE:zbt TP 415=some 173:=by kernel_rfl
def st9:zin TP 9=true:=by kernel_rfl
def sz2:zao TP 2=some 1:=by kernel_rfl
def sz3:zao TP 3=some 1:=by kernel_rfl
def sz4:zao TP 4=some 1:=by kernel_rfl
def sz5:zao TP 5=some 1:=by kernel_rfl
def sz9:zao TP 9=some 1:=by kernel_rfl
def zoU:zao TP 28=some 1:=by kernel_rfl
def zg6:zao TP 32=some 1:=by kernel_rfl
def zy6:zao TP 33=some 1:=by kernel_rfl
def zaS:zao TP 35=some 3:=by kernel_rfl
def zeg:zao TP 36=some 1:=by kernel_rfl
def zDf:zao TP 37=some 1:=by kernel_rfl
def zaD:zao TP 39=some 8:=by kernel_rfl
def zah:zao TP 48=some 1:=by kernel_rfl
def zv4:zao TP 52=some 1:=by kernel_rfl
def zCh:zao TP 65=some 1:=by kernel_rfl
def yH:zao TP 67=some 4:=by kernel_rfl
def zcn:zao TP 78=some 2:=by kernel_rfl
def zz9:zao TP 81=some 1:=by kernel_rfl
def zdp:zao TP 98=some 5:=by kernel_rfl
def zxd:zao TP 105=some 1:=by kernel_rfl
def zlr:zao TP 109=some 1:=by kernel_rfl
def ym:zao TP 111=some 4:=by kernel_rfl
def zad:zao TP 114=some 4:=by kernel_rfl
def zxo:zao TP 121=some 1:=by kernel_rfl
def zc1:zao TP 126=some 2:=by kernel_rfl
def zdW:zao TP 137=some 3:=by kernel_rfl
def zjQ:zao TP 173=some 1:=by kernel_rfl
def zb3:zao TP 176=some 1:=by kernel_rfl
def znO:zao TP 189=some 3:=by kernel_rfl
def zaA:zao TP 215=some 2:=by kernel_rfl
def ztP:zao TP 224=some 1:=by kernel_rfl
def ztT:zao TP 303=some 2:=by kernel_rfl
def ztz:zao TP 327=some 3:=by kernel_rfl
def zAD:zao TP 331=some 1:=by kernel_rfl
def zCO:zao TP 382=some 1:=by kernel_rfl
def zB7:zao TP 384=some 2:=by kernel_rfl
def zmk:zao TP 397=some 2:=by kernel_rfl
def zkO:zao TP 412=some 3:=by kernel_rfl
def zBv:zao TP 443=some 1:=by kernel_rfl
def zr2:zaw TP 2=some (Ii 0):=by kernel_rfl
def zr3:zaw TP 3=some (Ii 0):=by kernel_rfl
def zr4:zaw TP 4=some (.bool false):=by kernel_rfl
def zr5:zaw TP 5=some (.int .u8 0):=by kernel_rfl
def zr9:zaw TP 9=some (.string ⟨#[]⟩):=by kernel_rfl
def zuQ:zaw TP 28=some (Ii 0):=by kernel_rfl
def zDw:zaw TP 32=some (.slice none 0 0):=by kernel_rfl
def zDd:zaw TP 33=some (.slice none 0 0):=by kernel_rfl
def zAT:zaw TP 35=some (.agg #[.slice none 0 0,.slice none 0 0,.slice none 0 0]):=by kernel_rfl
def zzU:zaw TP 36=some (.slice none 0 0):=by kernel_rfl
def zh6:zaw TP 39=some (.agg #[Ii 0,.string ⟨#[]⟩,.slice none 0 0,.slice none 0 0,.slice none 0 0,.slice none 0 0,.slice none 0 0,.slice none 0 0]):=by kernel_rfl
def zkf:zaw TP 48=some (.agg #[.slice none 0 0]):=by kernel_rfl
def zjP:zaw TP 52=some (.pointer none):=by kernel_rfl
def zg2:zaw TP 67=some (.agg #[.slice none 0 0,.slice none 0 0,.slice none 0 0,.slice none 0 0]):=by kernel_rfl
def zoo:zaw TP 78=some (.agg #[.string ⟨#[]⟩,.string ⟨#[]⟩]):=by kernel_rfl
def zDi:zaw TP 83=some (.agg #[.map none]):=by kernel_rfl
def zDa:zaw TP 88=some (.nilFunc):=by kernel_rfl
def zB3:zaw TP 98=some (.agg #[.string ⟨#[]⟩,.slice none 0 0,.slice none 0 0,.slice none 0 0,.slice none 0 0]):=by kernel_rfl
def zBN:zaw TP 105=some (.slice none 0 0):=by kernel_rfl
def zAI:zaw TP 109=some (.int .u64 0):=by kernel_rfl
def zdl:zaw TP 111=some (.agg #[Ii 0,Ii 0,.int .u64 0,.string ⟨#[]⟩]):=by kernel_rfl
def zk0:zaw TP 114=some (.agg #[.string ⟨#[]⟩,Ii 0,Ii 0,.bool false]):=by kernel_rfl
def ztS:zaw TP 123=some (.agg #[.pointer none,.slice none 0 0,.slice none 0 0,.slice none 0 0,.slice none 0 0]):=by kernel_rfl
def zjq:zaw TP 126=some (.agg #[.slice none 0 0,.pointer none]):=by kernel_rfl
def zCP:zaw TP 127=some (.slice none 0 0):=by kernel_rfl
def zgj:zaw TP 137=some (.agg #[.nilFunc,.nilFunc,.nilFunc]):=by kernel_rfl
def zn9:zaw TP 169=some (.agg #[.string ⟨#[]⟩,.nilIface]):=by kernel_rfl
def zxC:zaw TP 173=some (.slice none 0 0):=by kernel_rfl
def zxl:zaw TP 176=some (.slice none 0 0):=by kernel_rfl
def zwW:zaw TP 178=some (.agg #[.slice none 0 0]):=by kernel_rfl
def zBd:zaw TP 189=some (.agg #[.pointer none,.pointer none,.int .u64 0]):=by kernel_rfl
def zfQ:zaw TP 199=some (.agg #[.string ⟨#[]⟩,.nilIface]):=by kernel_rfl
def znh:zaw TP 215=some (.agg #[.string ⟨#[]⟩,.string ⟨#[]⟩]):=by kernel_rfl
def zAK:zaw TP 224=some (.slice none 0 0):=by kernel_rfl
def ztL:zaw TP 260=some (.nilIface):=by kernel_rfl
def zkw:zaw TP 263=some (.nilIface):=by kernel_rfl
def zzF:zaw TP 265=some (.nilIface):=by kernel_rfl
def zk2:zaw TP 294=some (.agg #[.nilFunc,.nilFunc,.nilFunc]):=by kernel_rfl
def zgg:zaw TP 303=some (.agg #[.nilFunc,.nilFunc]):=by kernel_rfl
def zkN:zaw TP 310=some (.agg #[.nilFunc,.nilFunc]):=by kernel_rfl
def zxA:zaw TP 327=some (.agg #[.slice none 0 0,.slice none 0 0,.slice none 0 0]):=by kernel_rfl
def zCu:zaw TP 333=some (.agg #[.slice none 0 0]):=by kernel_rfl
def zxv:zaw TP 384=some (.agg #[.slice none 0 0,Ii 0]):=by kernel_rfl
def zqo:zaw TP 393=some (.nilIface):=by kernel_rfl
def znJ:zaw TP 397=some (.agg #[.slice none 0 0,.slice none 0 0]):=by kernel_rfl
def zmW:zaw TP 410=some (.agg #[.string ⟨#[]⟩,.nilIface]):=by kernel_rfl
def zec:zaw TP 412=some (.agg #[.nilFunc,Ii 0,.nilFunc]):=by kernel_rfl
def zCi:zaw TP 426=some (.agg #[.int .u8 0,.int .u8 0,.int .u8 0,.int .u8 0,.int .u8 0,.int .u8 0,.int .u8 0,.int .u8 0,.int .u8 0]):=by kernel_rfl
def zB9:zaw TP 443=some (.nilFunc):=by kernel_rfl
theorem zDe:App TP 22 39 8 168 (.agg #[Ii 0,.string ⟨#[]⟩,.slice none 0 0,.slice none 0 0,.slice none 0 0,.slice none 0 0,.slice none 0 0,.slice none 0 0]):=⟨zhV,zaD,zh6,by as_aux_lemma=>kernel_rfl,rfl,by simp[Value.cells,Value.oneCell'],by decide⟩
theorem zDz:App TP 31 114 4 40 (.agg #[.string ⟨#[]⟩,Ii 0,Ii 0,.bool false]):=⟨zaO,zad,zk0,by as_aux_lemma=>kernel_rfl,rfl,by simp[Value.cells,Value.oneCell'],by decide⟩
theorem zx9:App TP 32 3 1 8 (Ii 0):=⟨zaH,sz3,zr3,by as_aux_lemma=>kernel_rfl,rfl,by simp[Value.cells,Value.oneCell'],by decide⟩
theorem ztw:App TP 33 32 1 24 (.slice none 0 0):=⟨zbd,zg6,zDw,by as_aux_lemma=>kernel_rfl,rfl,by simp[Value.cells,Value.oneCell'],by decide⟩
theorem zj2:App TP 36 111 4 40 (.agg #[Ii 0,Ii 0,.int .u64 0,.string ⟨#[]⟩]):=⟨yE,ym,zdl,by as_aux_lemma=>kernel_rfl,rfl,by simp[Value.cells,Value.oneCell'],by decide⟩
theorem zAC:App TP 37 78 2 32 (.agg #[.string ⟨#[]⟩,.string ⟨#[]⟩]):=⟨zaF,zcn,zoo,by as_aux_lemma=>kernel_rfl,rfl,by simp[Value.cells,Value.oneCell'],by decide⟩
theorem zog:App TP 46 98 5 112 (.agg #[.string ⟨#[]⟩,.slice none 0 0,.slice none 0 0,.slice none 0 0,.slice none 0 0]):=⟨zbg,zdp,zB3,by as_aux_lemma=>kernel_rfl,rfl,by simp[Value.cells,Value.oneCell'],by decide⟩
theorem zow:App TP 65 36 1 24 (.slice none 0 0):=⟨zbZ,zeg,zzU,by as_aux_lemma=>kernel_rfl,rfl,by simp[Value.cells,Value.oneCell'],by decide⟩
theorem zxf:App TP 105 9 1 16 (.string ⟨#[]⟩):=⟨zeL,sz9,zr9,by as_aux_lemma=>kernel_rfl,rfl,by simp[Value.cells,Value.oneCell'],by decide⟩
theorem zql:App TP 121 126 2 32 (.agg #[.slice none 0 0,.pointer none]):=⟨zfv,zc1,zjq,by as_aux_lemma=>kernel_rfl,rfl,by simp[Value.cells,Value.oneCell'],by decide⟩
theorem zkR:App TP 127 137 3 24 (.agg #[.nilFunc,.nilFunc,.nilFunc]):=⟨ztA,zdW,zgj,by as_aux_lemma=>kernel_rfl,rfl,by simp[Value.cells,Value.oneCell'],by decide⟩
theorem ziF:App TP 172 176 1 24 (.slice none 0 0):=⟨ziO,zb3,zxl,by as_aux_lemma=>kernel_rfl,rfl,by simp[Value.cells,Value.oneCell'],by decide⟩
theorem znA:App TP 173 176 1 24 (.slice none 0 0):=⟨zbf,zb3,zxl,by as_aux_lemma=>kernel_rfl,rfl,by simp[Value.cells,Value.oneCell'],by decide⟩
theorem zzQ:App TP 175 215 2 32 (.agg #[.string ⟨#[]⟩,.string ⟨#[]⟩]):=⟨zj6,zaA,znh,by as_aux_lemma=>kernel_rfl,rfl,by simp[Value.cells,Value.oneCell'],by decide⟩
theorem ziC:App TP 176 215 2 32 (.agg #[.string ⟨#[]⟩,.string ⟨#[]⟩]):=⟨yD,zaA,znh,by as_aux_lemma=>kernel_rfl,rfl,by simp[Value.cells,Value.oneCell'],by decide⟩
theorem zbk:App TP 224 5 1 1 (.int .u8 0):=⟨y7,sz5,zr5,by as_aux_lemma=>kernel_rfl,rfl,by simp[Value.cells,Value.oneCell'],by decide⟩
theorem zqi:App TP 286 2 1 8 (Ii 0):=⟨zmg,sz2,zr2,by as_aux_lemma=>kernel_rfl,rfl,by simp[Value.cells,Value.oneCell'],by decide⟩
theorem zpt:App TP 287 109 1 8 (.int .u64 0):=⟨zmK,zlr,zAI,by as_aux_lemma=>kernel_rfl,rfl,by simp[Value.cells,Value.oneCell'],by decide⟩
theorem zz8:App TP 399 33 1 24 (.slice none 0 0):=⟨zmM,zy6,zDd,by as_aux_lemma=>kernel_rfl,rfl,by simp[Value.cells,Value.oneCell'],by decide⟩
theorem zCw:App TP 415 173 1 24 (.slice none 0 0):=⟨zmE,zjQ,zxC,by as_aux_lemma=>kernel_rfl,rfl,by simp[Value.cells,Value.oneCell'],by decide⟩
def mix:Tryz.prog.follows .mixedOrders=true:=by kernel_rfl
set_option maxRecDepth 10000
def zBY:zfZ TP 336=some Extern.BytealgCompare.compare:=by kernel_rfl
theorem zn2(s u:By)(w:Wl):(Extern.BytealgCompare.compare #[.string s,.string u]).run TP w=.ok (Ii (zia s u)) w:=by
 change Sem.run TP (do pure (goInt (Extern.BytealgCompare.cmp (←Extern.Bytes.bytesOf (.string s)) (←Extern.Bytes.bytesOf (.string u))))) w=_
 simp[Extern.Bytes.bytesOf,goInt,zia]
theorem f58(s u:By)(w:Wl):zS TP 312 #[.string s,.string u] w fun v w'=>v=Ii (zia s u)∧w'=w:=by
 refine zS.of_W (args:=[.string s,.string u]) Tryz.func312 U U U U ?_
 refine Sr (Oa U (E2 0 1 U (Sr (Om U (Om U ?_)))))
 refine Oq (zdi (P:=TP) (n:=Tryz.f312.ntmps) zBY U U (zn2 _ _ _) U ?_)
 refine Oa U (E1 4 U (zj ?_))
 refine zw U U ?_
 exact⟨U,U⟩
theorem f52(s u:By)(w:Wl):zS TP 231 #[.string s,.string u] w fun v w'=>v=Ii (zia s u)∧w'=w:=by
 refine zS.of_W (args:=[.string s,.string u]) Tryz.func231 U U U U ?_
 refine Sr (Oa U (E2 0 1 U (Sr (Om U (Om U ?_)))))
 refine Oc zCB U U U (f58 _ _ _) ?_
 rintro v7 w7⟨rfl,rfl⟩
 refine Oa U (E1 4 U (zj ?_))
 refine zw U U ?_
 exact⟨U,U⟩
abbrev Ent:=By×By
abbrev LE:=List (List Ent)
def flat(es:List Ent):LA:=es.flatMap fun x=>[.string x.1,.string x.2]
theorem zeo(x:Ent)(es:List Ent):flat (x::es)=.string x.1 :: .string x.2::flat es:=rfl
theorem zdX(a b:List Ent):flat (a++b)=flat a++flat b:=by simp[flat]
theorem zf6(es:List Ent):(flat es).length=es.length*2:=by
 induction es with
 |nil=>rfl
 |cons x es ih=>rw[zeo];simp only[List.length_cons,ih];omega
theorem zgt(es:List Ent)(i:Nat):flat (es.drop i)=(flat es).drop (i*2):=by
 induction es generalizing i with
 |nil=>simp[flat]
 |cons x es ih=>
  cases i with
  |zero=>simp
  |succ i=>rw[List.drop_succ_cons,ih,zeo,show (i+1)*2=(i*2)+1+1 by omega];rfl
theorem zih(es:List Ent)(i:Nat):flat (es.take i)=(flat es).take (i*2):=by
 induction es generalizing i with
 |nil=>simp[flat]
 |cons x es ih=>
  cases i with
  |zero=>simp[flat]
  |succ i=>rw[List.take_succ_cons,zeo,ih,zeo,show (i+1)*2=(i*2)+1+1 by omega];rfl
theorem znN(es:List Ent):∀u∈flat es,u.oneCell'=true:=by
 intro u hu
 simp only[flat,List.mem_flatMap]at hu
 obtain⟨x,_,hu⟩:=hu
 simp at hu
 rcases hu with rfl|rfl<;>rfl
theorem zwg{es:List Ent}{i:Nat}{x:Ent}(h:es[i]?=some x):((flat es).drop (i*2)).take 2=[.string x.1,.string x.2]:=by
 rw[←zgt]
 have:es.drop i=x::es.drop (i+1):=by
  rw[List.getElem?_eq_some_iff]at h
  obtain⟨hl,rfl⟩:=h
  exact List.drop_eq_getElem_cons hl
 rw[this,zeo]
 rfl
def yG(w:Wl)(v:Va)(es:List Ent):Prop:=zB w 215 2 v es.length (flat es)
theorem yG.chg{S:List Nat}{w w':Wl}{v:Va}{es:List Ent}(h:yG w v es)(hc:zk S w w')(hb:∀b∈zu v,b∉S):yG w' v es:=zB.chg h hc hb
theorem yG.chg0{w w':Wl}{v:Va}{es:List Ent}(h:yG w v es)(hc:zk [] w w'):yG w' v es:=zB.chg0 h hc
theorem yG.at'{w:Wl}{v:Va}{es:List Ent}(h:yG w v es){i:Nat}{x:Ent}(hx:es[i]?=some x):∃b off cap,v=.slice (some ⟨b,off,none⟩) es.length cap∧zv w b (off+i*2) [.string x.1,.string x.2]:=by
 have hi:i<es.length:=(Gs hx).1
 obtain⟨b,off,cap,hv,hc⟩:=zB.atk h hi
 rw[zwg hx]at hc
 exact⟨b,off,cap,hv,hc⟩
theorem f41(k x:By)(w:Wl):zS TP 185 #[.agg #[.string k,.string x]] w fun r w'=>r=.string k∧zk [] w w':=by
 refine zS.of_W (args:=[.agg #[.string k,.string x]]) Tryz.func185 U U U U ?_
 refine Sr ?_
 refine Ob U U ?_
 intro b1 w1 e1 n1 c1 k1
 refine Oa U (E1 1 U (Sr (Od zhG U (Ol yI U (k1.cell' U) (Oa U (E1 2 U (zj ?_)))))))
 refine zw U U ?_
 exact⟨U,c1⟩
theorem f49(v:Va)(k x:By)(es:List Ent)(w:Wl)(h:yG w v ((k,x)::es)):zS TP 228 #[v] w fun r w'=>r=.string k∧w'=w:=by
 obtain⟨b,off,cap,rfl,hc⟩:=h.at' (i:=0) rfl
 refine A1 Tryz.func228 U U ?_
 refine Sr (Oa U (E1 0 U (Sr (Om U ?_))))
 refine Og (zi yD zaA U U 0 U (by simp)) U ?_
 refine Od zhG U ?_
 refine Ol yI U (hc 0 _ U) ?_
 refine Oa U (E1 2 U (zj ?_))
 refine zw U U ?_
 exact⟨U,U⟩
theorem f51(k x key:By)(b:Nat)(w:Wl)(hb:zO w b 277 [.func (.func 185) #[] #[]]):zS TP 230 #[.agg #[.string k,.string x],.string key,Pt b] w fun r w'=>r=Ii (zia k key)∧zk [] w w':=by
 refine A3 Tryz.func230 U U ?_
 refine Sr ?_
 refine Ob U U ?_
 intro b3 w3 e3 n3 c3 k3
 refine Oa U (E3 1 2 3 U (Sr (Ol zBi U ((hb.chg0 c3).cell' U) (Og (zh zqK zaA U U (zv.of_blk0 k3)) U ?_))))
 refine Oc zAU U U U (f41 k x _) ?_
 rintro v8 w8⟨rfl,c8⟩
 refine Om U ?_
 refine Oc zw3 U U U (f52 _ _ _) ?_
 rintro v10 w10⟨rfl,rfl⟩
 refine Oa U (E1 5 U (zj ?_))
 refine zw U U ?_
 exact⟨U,c3.trans c8⟩
theorem f57(v:Va)(k x key:By)(es:List Ent)(b:Nat)(w:Wl)(hl:yG w v ((k,x)::es))(hb:zO w b 347 [.func (.func 228) #[] #[]]):zS TP 311 #[v,.string key,Pt b] w fun r w'=>r=Ii (zia k key)∧w'=w:=by
 refine A3 Tryz.func311 U U ?_
 refine Sr (Oa U (E3 0 1 2 U (Sr (Ol zCv U (hb.cell' U) (Om U ?_)))))
 refine Oc zz7 U U U (f49 _ _ _ _ _ hl) ?_
 rintro v8 w8⟨rfl,rfl⟩
 refine Om U ?_
 refine Oc zw3 U U U (f52 _ _ _) ?_
 rintro v10 w10⟨rfl,rfl⟩
 refine Oa U (E1 5 U (zj ?_))
 refine zw U U ?_
 exact⟨U,U⟩
def zoq(ks:List By)(key:By)(i:Nat):Prop:=i≤ks.length∧∀j k,ks[j]?=some k→(blt k key=true↔j<i)
def zru(ks:List By)(key:By):Prop:=∀(i j:Nat) (a b:By),i≤j→ks[i]?=some a→ks[j]?=some b→blt b key=true→blt a key=true
def zcl(ks:List By)(key:By)(lo hi:Nat):Prop:=lo≤hi∧hi≤ks.length∧(∀(j:Nat) (k:By),j<lo→ks[j]?=some k→blt k key=true)∧(∀(j:Nat) (k:By),hi≤j→ks[j]?=some k→blt k key=false)
def zcQ(ks:List By)(key:By)(i:Nat):Bool:=match ks[i]? with|some k=>decide (k=key)|none=>false
theorem zcl.start(ks:List By)(key:By):zcl ks key 0 ks.length:=
 ⟨Zl _,Nat.le_refl _,fun j k h=>by omega,fun j k h hk=>by simp[List.getElem?_eq_none h]at hk⟩
theorem zcl.low{ks:List By}{key k:By}{lo hi h:Nat}(hb:zcl ks key lo hi)(hm:zru ks key)(h1:lo≤h)(h2:h<hi)(hk:ks[h]?=some k)(hlt:blt k key=true):zcl ks key (h+1) hi:=
 ⟨by omega,hb.2.1,fun j a hj ha=>hm j h a k (by omega) ha hk hlt,hb.2.2.2⟩
theorem zcl.high{ks:List By}{key k:By}{lo hi h:Nat}(hb:zcl ks key lo hi)(hm:zru ks key)(h1:lo≤h)(h2:h<hi)(hk:ks[h]?=some k)(hlt:blt k key=false):zcl ks key lo h:=
 ⟨h1,by have:=hb.2.1;omega,hb.2.2.1,fun j a hj ha=>by
  cases hx:blt a key with
  |false=>rfl
  |true=>rw[hm h j k a hj hk ha hx]at hlt;cases hlt⟩
theorem zcl.done{ks:List By}{key:By}{lo hi:Nat}(hb:zcl ks key lo hi)(he:hi≤lo):zoq ks key lo:=by
 have:lo=hi:=by have:=hb.1;omega
 subst this
 refine⟨hb.2.1,fun j k hk=>⟨fun h=>?_,fun h=>hb.2.2.1 j k h hk⟩⟩
 rcases Lg j lo with h'|h'
 ·exact h'
 rw[hb.2.2.2 j k h' hk]at h;cases h
theorem zph{lo hi:Nat}(h:lo<hi):lo≤(lo+hi)/2∧(lo+hi)/2<hi:=by omega
theorem f50(v:Va)(es:List Ent)(key:By)(b:Nat)(w:Wl)(hl:yG w v es)(hn:es.length≤4611686018427387903)(hb:zO w b 277 [.func (.func 185) #[] #[]])(hm:zru (es.map (·.1)) key) :
 zS TP 229 #[v,.string key,.func (.func 230) #[] #[Pt b]] w fun r w'=>∃i:Nat,r=.tuple #[Ii i,.bool (zcQ (es.map (·.1)) key i)]∧zoq (es.map (·.1)) key i∧zk [] w w':=by
 obtain⟨p,c,rfl,_⟩:=hl.val
 refine A3 Tryz.func229 U U ?_
 refine Sr (Oa U (Oa U (E3 0 1 2 U (Sr (Om U (On zj6 U (Oa U (E4 0 1 2 8 U (Sr (Om U (Oa U (Oa U (E6 0 1 2 8 9 10 U (zf (zp ?_)))))))))))))))
 refine zQ [0,1,2,8,9,10] (fun m F wx=>∃lo hi:Nat,m=hi-lo∧F=[(0,.slice p es.length c),(1,.string key),(2,.func (.func 230) #[] #[Pt b]),(8,Ii es.length),(9,Ii lo),(10,Ii hi)]∧zcl (es.map (·.1)) key lo hi∧zk [] w wx) (m:=es.length-0) ⟨0,es.length,rfl,rfl,by simpa using zcl.start (es.map (·.1)) key,zk.refl _ _⟩ ?_
 rintro m F wx⟨lo,hi,rfl,rfl,hbt,hcx⟩
 have hle:=hbt.2.1
 rw[List.length_map]at hle
 refine zf (Sr (Om U (Om U (Og (zz U U) U (E7 0 1 2 8 9 10 17 U ?_)))))
 refine zP U (fun hT=>?_) (fun hF=>?_)
 ·refine zm ?_
  have hlt:lo<hi:=by simpa using hT
  have hh:=zph hlt
  have hk:es[(lo+hi)/2]?=some es[(lo+hi)/2]:=by simp
  have hlw:=hl.chg0 hcx
  obtain⟨bb,off,cap,hv,hcs⟩:=hlw.at' hk
  cases hv
  refine zp (Sr (Om U (Om U ?_)))
  refine Og (zG U U (by omega)) U ?_
  refine Og (yj zdF zaB U (show IntKind.u64.wrap ((lo:Int)+(hi:Int))=((lo+hi:Nat):Int) from by rw[IntWalk.u64_in _ ⟨by omega,by omega⟩];omega)) U ?_
  refine Og (zcw 1 U U (by omega) (by decide) (show ((lo+hi:Nat):Int).fdiv 2=(((lo+hi)/2:Nat):Int) from by rw[Int.fdiv_eq_ediv_of_nonneg _ (by omega)];omega)) U ?_
  refine Og (yj zaB zdF U (show IntKind.i64.wrap (((lo+hi)/2:Nat):Int)=(((lo+hi)/2:Nat):Int) from IntWalk.i64_in _ ⟨by omega,by omega⟩)) U ?_
  refine Oa U (E7 0 1 2 8 9 10 11 U (Sr (Om U (Om U (Om U ?_)))))
  refine Og (zi zj6 zaA U U _ U (by omega)) U ?_
  refine Og (zh zqK zaA U U hcs) U (Om U ?_)
  refine Oc zxu U U U (f51 _ _ key b _ (hb.chg0 hcx)) ?_
  rintro v30 w30⟨rfl,c30⟩
  refine Og (zz U U) U (E8 0 1 2 8 9 10 11 31 U ?_)
  have hkm:(es.map (·.1))[(lo+hi)/2]?=some es[(lo+hi)/2].1:=by rw[List.getElem?_map,hk];rfl
  refine zP U (fun hT=>?_) (fun hF=>?_)
  ·have hlt2:=(zi8 _ _).1 (of_decide_eq_true hT)
   refine za (Om U ?_)
   refine Og (zG U U (by omega)) U ?_
   refine Oa U (N6 0 1 2 8 9 10 U ?_)
   refine⟨hi-((lo+hi)/2+1),by omega,(lo+hi)/2+1,hi,rfl,rfl,hbt.low hm hh.1 hh.2 hkm hlt2,hcx.trans c30⟩
  have hlt2:blt es[(lo+hi)/2].1 key=false:=by
   cases hx:blt es[(lo+hi)/2].1 key with
   |false=>rfl
   |true=>have:=(zi8 _ _).2 hx;simp at hF;omega
  refine za (Om U (Oa U (N6 0 1 2 8 9 10 U ?_)))
  refine⟨(lo+hi)/2-lo,by omega,lo,(lo+hi)/2,rfl,rfl,hbt.high hm hh.1 hh.2 hkm hlt2,hcx.trans c30⟩
 refine zI ?_
 repeat first|refine te ?_|refine bo rfl ?_
 refine zq _ ?_
 have hge:hi≤lo:=by simpa using hF
 have hlb:=hbt.done hge
 refine zf ?_
 by_cases hlt:lo<es.length
 ·have hk:es[lo]?=some es[lo]:=by simp
  have hlw:=hl.chg0 hcx
  obtain⟨bb,off,cap,hv,hcs⟩:=hlw.at' hk
  cases hv
  have hhas:zcQ (es.map (·.1)) key lo=decide (zia es[lo].1 key=0):=by
   simp only[zcQ,List.getElem?_map,hk,Option.map_some]
   exact decide_eq_decide.2 (zqp _ _).symm
  refine za (Om U (Om U (Om U ?_)))
  refine Og (vt (zz U U) (by simpa using hlt)) U ?_
  refine Om U (Ov U (Ov U (Ov U ?_)))
  refine Oi U (zi zj6 zaA U U _ U hlt) ?_
  refine Oi U (zh zqK zaA U U hcs) (Ov U ?_)
  refine Ow U U zxu U U U (f51 _ _ key b _ (hb.chg0 hcx)) ?_
  rintro v46 w46⟨rfl,c46⟩
  refine Oi U (zxK (zy U U) hhas.symm) (Ot U (Oa U (Oa U (E2 6 7 U (zj ?_)))))
  refine zcF U U U ?_
  exact⟨lo,U,hlb,hcx.trans c46⟩
 have hhas:zcQ (es.map (·.1)) key lo=false:=by
  simp only[zcQ,List.getElem?_map,List.getElem?_eq_none (Nat.not_lt.1 hlt),Option.map_none]
 refine za (Om U (Om U (Om U ?_)))
 refine Og (vf (zz U U) (by simpa using hlt)) U ?_
 refine Om U ?_
 iterate 8 refine zeC U U U U U U ?_
 refine Of U (Oa U (Oa U (E2 6 7 U (zj ?_))))
 refine zcF U U U ?_
 exact⟨lo,by rw[hhas],hlb,hcx⟩
def yP(l:List Ent):By:=match l with|x::_=>x.1|[]=>⟨#[]⟩
def lbN(l:List Ent)(key:By):Nat:=(l.takeWhile fun x=>blt x.1 key).length
def zeD(l:List Ent)(key:By):Bool:=zcQ (l.map (·.1)) key (lbN l key)
def yN(ls:LE)(key:By):Nat:=(ls.takeWhile fun l => !blt key (yP l)).length
def Srt(l:List Ent):Prop:=l.Pairwise fun a b=>blt a.1 b.1=true
theorem zcS{α:Type}(p:α→Bool):∀(l:List α) (i:Nat),i≤l.length→(∀j k,l[j]?=some k→(p k=true↔j<i))→(l.takeWhile p).length=i
 |[],i,h,_=>by simp at h;simp[h]
 |x::l,i,h,hp=>by
  have h0:=hp 0 x rfl
  cases i with
  |zero=>
   have:p x=false:=by
    cases hx:p x with
    |false=>rfl
    |true=>have:=h0.1 hx;omega
   simp[List.takeWhile,this]
  |succ i=>
   have:p x=true:=h0.2 (by omega)
   have ih:=zcS p l i (by simpa using h) (fun j k hk=>by
    have:=hp (j+1) k (by simpa using hk)
    rw[this];omega)
   simp[List.takeWhile,this,ih]
theorem zoq.eq{l:List Ent}{key:By}{i:Nat}(h:zoq (l.map (·.1)) key i):i=lbN l key:=by
 refine(zcS _ l i (by simpa using h.1) (fun j k hk=>?_)).symm
 exact h.2 j k.1 (by rw[List.getElem?_map,hk];rfl)
theorem Srt.at{l:List Ent}(h:Srt l){i j:Nat}{a b:Ent}(hij:i<j)(ha:l[i]?=some a)(hb:l[j]?=some b):blt a.1 b.1=true:=by
 obtain⟨h1,rfl⟩:=Gs ha
 obtain⟨h2,rfl⟩:=Gs hb
 exact List.pairwise_iff_getElem.1 h i j h1 h2 hij
theorem Srt.mono{l:List Ent}(h:Srt l)(key:By):zru (l.map (·.1)) key:=by
 intro i j a b hij ha hb hlt
 rw[List.getElem?_map]at ha hb
 cases hx:l[i]? with
 |none=>simp[hx]at ha
 |some x=>
  cases hy:l[j]? with
  |none=>simp[hy]at hb
  |some y=>
   simp[hx]at ha;simp[hy]at hb
   subst ha hb
   rcases Lg i j with h'|h'
   ·exact zdB (h.at h' hx hy) hlt
   have:i=j:=by omega
   subst this
   rw[hx]at hy
   simp at hy
   subst hy
   exact hlt
def zkC(ls:LE):Prop:=ls.Pairwise fun a b=>blt (yP a) (yP b)=true
theorem zkC.at{ls:LE}(h:zkC ls){i j:Nat}{a b:List Ent}(hij:i<j)(ha:ls[i]?=some a)(hb:ls[j]?=some b):blt (yP a) (yP b)=true:=by
 obtain⟨h1,rfl⟩:=Gs ha
 obtain⟨h2,rfl⟩:=Gs hb
 exact List.pairwise_iff_getElem.1 h i j h1 h2 hij
theorem zkC.mono{ls:LE}(h:zkC ls)(key:By):zru (ls.map yP) key:=by
 intro i j a b hij ha hb hlt
 rw[List.getElem?_map]at ha hb
 cases hx:ls[i]? with
 |none=>simp[hx]at ha
 |some x=>
  cases hy:ls[j]? with
  |none=>simp[hy]at hb
  |some y=>
   simp[hx]at ha;simp[hy]at hb
   subst ha hb
   rcases Lg i j with h'|h'
   ·exact zdB (h.at h' hx hy) hlt
   have:i=j:=by omega
   subst this
   rw[hx]at hy
   simp at hy
   subst hy
   exact hlt
theorem zvM{ls:LE}{key:By}{i:Nat}(hs:zkC ls)(h:zoq (ls.map yP) key i):(yN ls key-1:Nat)=(if zcQ (ls.map yP) key i then i else i-1):=by
 have hle:i≤ls.length:=by simpa using h.1
 have key1:∀j k,ls[j]?=some k→j<i→blt key (yP k)=false:=fun j k hk hj=>
  zdy ((h.2 j (yP k) (by rw[List.getElem?_map,hk];rfl)).2 hj)
 have key2:∀j k,ls[j]?=some k→i≤j→blt (yP k) key=false:=fun j k hk hj=>by
  cases hx:blt (yP k) key with
  |false=>rfl
  |true=>have:=(h.2 j (yP k) (by rw[List.getElem?_map,hk];rfl)).1 hx;omega
 by_cases hh:zcQ (ls.map yP) key i=true
 ·rw[if_pos hh]
  unfold zcQ at hh
  rw[List.getElem?_map]at hh
  cases hx:ls[i]? with
  |none=>simp[hx]at hh
  |some x=>
   simp[hx]at hh
   have hil:=(Gs hx).1
   have:yN ls key=i+1:=by
    refine zcS _ ls (i+1) (by omega) (fun j k hk=>?_)
    rw[Bool.not_eq_true']
    constructor
    ·intro h1
     rcases Lg j (i+1) with h'|h'
     ·exact h'
     have:=hs.at (show i<j by omega) hx hk
     rw[hh,h1]at this;cases this
    intro h1
    rcases Lg j i with h'|h'
    ·exact key1 j k hk h'
    have:j=i:=by omega
    subst this
    rw[hx]at hk;simp at hk;subst hk
    rw[hh];exact zaz _
   rw[this];simp
 rw[if_neg hh]
 have:yN ls key=i:=by
  refine zcS _ ls i hle (fun j k hk=>?_)
  rw[Bool.not_eq_true']
  constructor
  ·intro h1
   rcases Lg j i with h'|h'
   ·exact h'
   exfalso
   have h2:=key2 j k hk h'
   have he:=ze3 h2 h1
   rcases Lg i j with h3|h3
   ·have hil:i<ls.length:=by have:=(Gs hk).1;omega
    have hx:ls[i]?=some ls[i]:=by simp[hil]
    have h4:=hs.at h3 hx hk
    rw[he]at h4
    rw[key2 i _ hx (Nat.le_refl _)]at h4;cases h4
   have:j=i:=by omega
   subst this
   apply hh
   unfold zcQ
   rw[List.getElem?_map,hk]
   simp[he]
  intro h1;exact key1 j k hk h1
 rw[this]
def zbY(w:Wl):LA→LE→Prop
 |[],[]=>True
 |v::vs,l::ls=>yG w v l∧zbY w vs ls
 |_,_=>False
theorem zbY.at{w:Wl}:∀{vs:LA} {ls:LE} {i:Nat} {l:List Ent},zbY w vs ls→ls[i]?=some l→∃v,vs[i]?=some v∧yG w v l
 |[],[],_,_,_,h=>by simp at h
 |v::vs,l::ls,0,l',h,hi=>by simp at hi;subst hi;exact⟨v,rfl,h.1⟩
 |v::vs,l::ls,i+1,l',h,hi=>by simpa using h.2.at (by simpa using hi)
theorem zbY.append{w:Wl}:∀{vs us:LA} {ls ms:LE},zbY w vs ls→zbY w us ms→zbY w (vs++us) (ls++ms)
 |[],_,[],_,_,h=>h
 |_::_,_,_::_,_,h,h'=>⟨h.1,h.2.append h'⟩
theorem zbY.take{w:Wl}:∀{vs:LA} {ls:LE} (i:Nat),zbY w vs ls→zbY w (vs.take i) (ls.take i)
 |_,_,0,_=>by simp[zbY]
 |[],[],_+1,_=>by simp[zbY]
 |_::_,_::_,i+1,h=>⟨h.1,h.2.take i⟩
theorem zbY.drop{w:Wl}:∀{vs:LA} {ls:LE} (i:Nat),zbY w vs ls→zbY w (vs.drop i) (ls.drop i)
 |_,_,0,h=>h
 |[],[],_+1,_=>by simp[zbY]
 |_::_,_::_,i+1,h=>by simpa using h.2.drop i
theorem zbY.chg{S:List Nat}{w w':Wl}(hc:zk S w w'):∀{vs:LA} {ls:LE},(∀v∈vs,∀b∈zu v,b∉S)→zbY w vs ls→zbY w' vs ls
 |[],[],_,_=>trivial
 |v::vs,l::ls,hb,h=>⟨h.1.chg hc (hb v (by simp)),zbY.chg hc (fun u hu=>hb u (by simp[hu])) h.2⟩
theorem zbY.apart{w:Wl}{b:Nat}{e:TypeId}{c:LA}(hb:zO w b e c)(hne:Nat.beq 215 e=false):∀{vs:LA} {ls:LE},zbY w vs ls→∀v∈vs,∀x∈zu v,x∉[b]
 |[],[],_,v,hv=>by simp at hv
 |v::vs,l::ls,h,u,hu=>by
  rcases Mc hu with rfl|hu
  ·exact zB.apart h.1 hb hne
  exact zbY.apart hb hne h.2 u hu
def yB(w:Wl)(v:Va)(ls:LE):Prop:=∃vs,zB w 176 1 v ls.length vs∧zbY w vs ls
theorem yB.chg0{w w':Wl}{v:Va}{ls:LE}(h:yB w v ls)(hc:zk [] w w'):yB w' v ls:=
 let ⟨vs,h1,h2⟩:=h; ⟨vs,h1.chg0 hc,h2.chg hc (by simp)⟩
theorem yB.chg1{w w':Wl}{v:Va}{ls:LE}(h:yB w v ls){b:Nat}{e:TypeId}{c:LA}(hb:zO w b e c)(h1:Nat.beq 176 e=false)(h2:Nat.beq 215 e=false)(hc:zk [b] w w'):yB w' v ls:=
 let ⟨vs,g1,g2⟩:=h; ⟨vs,g1.chg hc (g1.apart hb h1),g2.chg hc (g2.apart hb h2)⟩
theorem yB.at{w:Wl}{v:Va}{ls:LE}(h:yB w v ls){i:Nat}{l:List Ent}(hi:ls[i]?=some l):∃b off cap u,v=.slice (some ⟨b,off,none⟩) ls.length cap∧w.cell? ⟨b,off+i*1,none⟩=some u∧yG w u l:=by
 obtain⟨vs,h1,h2⟩:=h
 obtain⟨b,off,cap,u,hv,hu,hc⟩:=h1.at1 (Gs hi).1
 obtain⟨u',hu',hl⟩:=h2.at hi
 rw[hu]at hu'
 simp at hu'
 subst hu'
 exact⟨b,off,cap,u,hv,hc,hl⟩
theorem f56(v:Va)(ls:LE)(key:By)(b:Nat)(w:Wl)(hl:yB w v ls)(hne:∀l∈ls,l≠[])(hn:ls.length≤4611686018427387903)(hb:zO w b 347 [.func (.func 228) #[] #[]])(hm:zru (ls.map yP) key) :
 zS TP 310 #[v,.string key,.func (.func 311) #[] #[Pt b]] w fun r w'=>∃i:Nat,r=.tuple #[Ii i,.bool (zcQ (ls.map yP) key i)]∧zoq (ls.map yP) key i∧w'=w:=by
 obtain⟨vs,hsl,hal⟩:=id hl
 obtain⟨p,c,rfl,_⟩:=hsl.val
 have call:∀(i:Nat) (l:List Ent),ls[i]?=some l→∃bb off u,p=some ⟨bb,off,none⟩∧w.cell? ⟨bb,off+i*1,none⟩=some u∧zS TP 311 #[u,.string key,Pt b] w fun r w'=>r=Ii (zia (yP l) key)∧w'=w:=by
  intro i l hi
  obtain⟨bb,off,cap,u,hv,hc,hl'⟩:=hl.at hi
  simp only[Value.slice.injEq]at hv
  refine⟨bb,off,u,hv.1,hc,?_⟩
  cases l with
  |nil=>exact absurd rfl (hne [] (Mg hi))
  |cons x l=>exact f57 u x.1 x.2 key l b w hl' hb
 refine A3 Tryz.func310 U U ?_
 refine Sr (Oa U (Oa U (E3 0 1 2 U (Sr (Om U (On ziO U (Oa U (E4 0 1 2 8 U (Sr (Om U (Oa U (Oa U (E6 0 1 2 8 9 10 U (zf (zp ?_)))))))))))))))
 refine zQ [0,1,2,8,9,10] (fun m F wx=>wx=w∧∃lo hi:Nat,m=hi-lo∧F=[(0,.slice p ls.length c),(1,.string key),(2,.func (.func 311) #[] #[Pt b]),(8,Ii ls.length),(9,Ii lo),(10,Ii hi)]∧zcl (ls.map yP) key lo hi) (m:=ls.length-0) ⟨rfl,0,ls.length,rfl,rfl,by simpa using zcl.start (ls.map yP) key⟩ ?_
 rintro m F wx⟨rfl,lo,hi,rfl,rfl,hbt⟩
 have hle:=hbt.2.1
 rw[List.length_map]at hle
 refine zf (Sr (Om U (Om U (Og (zz U U) U (E7 0 1 2 8 9 10 17 U ?_)))))
 refine zP U (fun hT=>?_) (fun hF=>?_)
 ·refine zm ?_
  have hlt:lo<hi:=by simpa using hT
  have hh:=zph hlt
  have hk:ls[(lo+hi)/2]?=some ls[(lo+hi)/2]:=by simp
  obtain⟨bb,off,u,rfl,hcs,hret⟩:=call _ _ hk
  refine zp (Sr (Om U (Om U ?_)))
  refine Og (zG U U (by omega)) U ?_
  refine Og (yj zdF zaB U (show IntKind.u64.wrap ((lo:Int)+(hi:Int))=((lo+hi:Nat):Int) from by rw[IntWalk.u64_in _ ⟨by omega,by omega⟩];omega)) U ?_
  refine Og (zcw 1 U U (by omega) (by decide) (show ((lo+hi:Nat):Int).fdiv 2=(((lo+hi)/2:Nat):Int) from by rw[Int.fdiv_eq_ediv_of_nonneg _ (by omega)];omega)) U ?_
  refine Og (yj zaB zdF U (show IntKind.i64.wrap (((lo+hi)/2:Nat):Int)=(((lo+hi)/2:Nat):Int) from IntWalk.i64_in _ ⟨by omega,by omega⟩)) U ?_
  refine Oa U (E7 0 1 2 8 9 10 11 U (Sr (Om U (Om U (Om U ?_)))))
  refine Og (zi ziO zb3 U U _ U (by omega)) U ?_
  refine Ol zeE U hcs (Om U ?_)
  refine Oc zwJ U U U hret ?_
  rintro v30 w30⟨rfl,rfl⟩
  refine Og (zz U U) U (E8 0 1 2 8 9 10 11 31 U ?_)
  have hkm:(ls.map yP)[(lo+hi)/2]?=some (yP ls[(lo+hi)/2]):=by rw[List.getElem?_map,hk];rfl
  refine zP U (fun hT=>?_) (fun hF=>?_)
  ·have hlt2:=(zi8 _ _).1 (of_decide_eq_true hT)
   refine za (Om U ?_)
   refine Og (zG U U (by omega)) U ?_
   refine Oa U (N6 0 1 2 8 9 10 U ?_)
   refine⟨hi-((lo+hi)/2+1),by omega,rfl,(lo+hi)/2+1,hi,rfl,rfl,hbt.low hm hh.1 hh.2 hkm hlt2⟩
  have hlt2:blt (yP ls[(lo+hi)/2]) key=false:=by
   cases hx:blt (yP ls[(lo+hi)/2]) key with
   |false=>rfl
   |true=>have:=(zi8 _ _).2 hx;simp at hF;omega
  refine za (Om U (Oa U (N6 0 1 2 8 9 10 U ?_)))
  refine⟨(lo+hi)/2-lo,by omega,rfl,lo,(lo+hi)/2,rfl,rfl,hbt.high hm hh.1 hh.2 hkm hlt2⟩
 refine zI ?_
 repeat first|refine te ?_|refine bo rfl ?_
 refine zq _ ?_
 have hge:hi≤lo:=by simpa using hF
 have hlb:=hbt.done hge
 refine zf ?_
 by_cases hlt:lo<ls.length
 ·have hk:ls[lo]?=some ls[lo]:=by simp
  obtain⟨bb,off,u,rfl,hcs,hret⟩:=call _ _ hk
  have hhas:zcQ (ls.map yP) key lo=decide (zia (yP ls[lo]) key=0):=by
   simp only[zcQ,List.getElem?_map,hk,Option.map_some]
   exact decide_eq_decide.2 (zqp _ _).symm
  refine za (Om U (Om U (Om U ?_)))
  refine Og (vt (zz U U) (by simpa using hlt)) U ?_
  refine Om U (Ov U (Ov U (Ov U ?_)))
  refine Oi U (zi ziO zb3 U U _ U hlt) ?_
  refine Oi U (zg zeE U hcs) (Ov U ?_)
  refine Ow U U zwJ U U U hret ?_
  rintro v46 w46⟨rfl,rfl⟩
  refine Oi U (zxK (zy U U) hhas.symm) (Ot U (Oa U (Oa U (E2 6 7 U (zj ?_)))))
  refine zcF U U U ?_
  exact⟨lo,U,hlb,U⟩
 have hhas:zcQ (ls.map yP) key lo=false:=by
  simp only[zcQ,List.getElem?_map,List.getElem?_eq_none (Nat.not_lt.1 hlt),Option.map_none]
 refine za (Om U (Om U (Om U ?_)))
 refine Og (vf (zz U U) (by simpa using hlt)) U ?_
 refine Om U ?_
 iterate 8 refine zeC U U U U U U ?_
 refine Of U (Oa U (Oa U (E2 6 7 U (zj ?_))))
 refine zcF U U U ?_
 exact⟨lo,by rw[hhas],hlb,rfl⟩
theorem f40(v:Va)(es:List Ent)(key:By)(w:Wl)(hl:yG w v es)(hn:es.length≤4611686018427387903)(hs:Srt es) :
 zS TP 184 #[v,.string key,.func (.func 185) #[] #[]] w fun r w'=>r=.tuple #[Ii (lbN es key:Nat),.bool (zeD es key)]∧zk [] w w':=by
 refine A3 Tryz.func184 U U ?_
 refine Sr ?_
 refine Ob U U ?_
 intro b5 w5 e5 n5 c5 k5
 refine Oa U (Oa U (E3 0 1 5 U (Sr (Om U (Om U (Og (zau U U) U ?_))))))
 refine Oc zBC U U U (f50 v es key b5 _ (hl.chg0 c5) hn k5 (hs.mono key)) ?_
 rintro v11 w11⟨i,rfl,hlb,c11⟩
 refine Oe U U (Oe U U (Oa U (Oa U (E2 6 7 U (zj ?_)))))
 refine zcF U U U ?_
 have:=hlb.eq
 subst this
 exact⟨U,c5.trans c11⟩
theorem f48(v:Va)(ls:LE)(key:By)(w:Wl)(hl:yB w v ls)(hne:∀l∈ls,l≠[])(hn:ls.length≤4611686018427387903)(hs:zkC ls) :
 zS TP 227 #[v,.string key,.func (.func 228) #[] #[]] w fun r w'=>∃i:Nat,r=.tuple #[Ii i,.bool (zcQ (ls.map yP) key i)]∧zoq (ls.map yP) key i∧zk [] w w':=by
 refine A3 Tryz.func227 U U ?_
 refine Sr ?_
 refine Ob U U ?_
 intro b5 w5 e5 n5 c5 k5
 refine Oa U (Oa U (E3 0 1 5 U (Sr (Om U (Om U (Og (zau U U) U ?_))))))
 refine Oc zB1 U U U (f56 v ls key b5 _ (hl.chg0 c5) hne hn k5 (hs.mono key)) ?_
 rintro v11 w11⟨i,rfl,hlb,rfl⟩
 refine Oe U U (Oe U U (Oa U (Oa U (E2 6 7 U (zj ?_)))))
 refine zcF U U U ?_
 exact⟨i,U,hlb,c5⟩
theorem f39(v:Va)(ls:LE)(key:By)(w:Wl)(hl:yB w v ls)(hne:∀l∈ls,l≠[])(hn:ls.length≤4611686018427387903)(hs:zkC ls) :
 zS TP 183 #[v,.string key] w fun r w'=>r=Ii (yN ls key-1:Nat)∧zk [] w w':=by
 refine A2 Tryz.func183 U U ?_
 refine Sr (Oa U (E2 0 1 U (Sr (Om U (Om U ?_)))))
 refine Oc zBO U U U (f48 v ls key _ hl hne hn hs) ?_
 rintro v10 w10⟨i,rfl,hlb,c10⟩
 refine Om U (Oe U U (Oe U U (Oa U (Oa U (E2 5 6 U ?_)))))
 have hc:=zvM hs hlb
 have hi:i≤ls.length:=by simpa using hlb.1
 refine zf (Sr (Om U (Og (zC U) U (E2 5 14 U ?_))))
 refine zP U (fun hT=>?_) (fun hF=>?_)
 ·refine za (Om U ?_)
  refine Og (yM U U (by omega)) U ?_
  refine Oa U (E1 5 U (Sr (Om U (Og (zpe U U) U (Oa U (E1 4 U (zj ?_)))))))
  refine zw U U ?_
  have:zcQ (ls.map yP) key i=false:=by simpa using hT
  rw[this]at hc
  simp at hc
  refine⟨?_,c10⟩
  rw[hc]
  congr 1
  split<;>omega
 refine zm (Sr (Om U (Og (zpe U U) U (Oa U (E1 4 U (zj ?_))))))
 refine zw U U ?_
 have:zcQ (ls.map yP) key i=true:=by simpa using hF
 rw[this]at hc
 simp at hc
 refine⟨?_,c10⟩
 rw[hc]
 congr 1
 split<;>omega
def spot(ls:LE)(key:By):Nat×Nat×Bool:=
 match ls[yN ls key-1]? with
 |some l=>(yN ls key-1,lbN l key,zeD l key)
 |none=>(0,0,false)
theorem zjl{ls:LE}{key:By}(h:ls≠[]):yN ls key-1<ls.length:=by
 have:yN ls key≤ls.length:=(List.takeWhile_prefix _).length_le
 have:0<ls.length:=List.length_pos_iff.2 h
 omega
theorem f24(v:Va)(ls:LE)(key:By)(w:Wl)(hl:yB w v ls)(hne:∀l∈ls,l≠[])(hn:ls.length≤4611686018427387903)(hs:zkC ls)(hsl:∀l∈ls,Srt l)(hnl:∀l∈ls,l.length≤4611686018427387903) :
 zS TP 120 #[v,.string key] w fun r w'=>r=.tuple #[Ii ((spot ls key).1:Nat),Ii ((spot ls key).2.1:Nat),.bool (spot ls key).2.2]∧zk [] w w':=by
 obtain⟨vs,hsl',hal⟩:=id hl
 obtain⟨p,c,rfl,_⟩:=hsl'.val
 refine A2 Tryz.func120 U U ?_
 refine Sr (Oa U (Oa U (Oa U (E2 0 1 U (zf (Sr (Om U (On zbf U (Og (zy U U) U (E3 0 1 9 U ?_))))))))))
 refine zP U (fun hT=>?_) (fun hF=>?_)
 ·refine Sr (Oa U (Oa U (Oa U (E3 4 5 6 U (zj ?_)))))
  refine zbW ?_
  refine zgW U U U U ?_
  have:ls=[]:=List.eq_nil_of_length_eq_zero (by simpa using hT)
  subst this
  exact⟨U,zk.refl _ _⟩
 refine zm ?_
 have hls:ls≠[]:=by rintro rfl;simp at hF
 have hat:=zjl (key:=key) hls
 have hk:ls[yN ls key-1]?=some ls[yN ls key-1]:=by simp[hat]
 have hmem:ls[yN ls key-1]∈ls:=List.getElem_mem hat
 have hspot:spot ls key=(yN ls key-1,lbN ls[yN ls key-1] key,zeD ls[yN ls key-1] key):=by unfold spot;rw[hk]
 refine Sr (Om U (Om U ?_))
 refine Oc zBr U U U (f39 _ ls key _ hl hne hn hs) ?_
 rintro v12 w12⟨rfl,c12⟩
 refine Oa U (E3 0 1 4 U ?_)
 obtain⟨bb,off,cap,u,hv,hc,hl'⟩:=(hl.chg0 c12).at hk
 cases hv
 refine Sr (Om U (Om U ?_))
 refine Og (zi zbf zb3 U U _ U hat) U ?_
 refine Ol zeE U hc (Om U ?_)
 refine Oc zzY U U U (f40 u _ key _ hl' (hnl _ hmem) (hsl _ hmem)) ?_
 rintro v19 w19⟨rfl,c19⟩
 refine Om U (Oe U U (Oe U U (Oa U (Oa U (E3 4 5 6 U (Sr (Om U (Om U (Om U (Oa U (Oa U (Oa U (E3 4 5 6 U (zj ?_))))))))))))))
 refine zgW U U U U ?_
 rw[hspot]
 exact⟨U,c12.trans c19⟩
theorem f25(v:Va)(n:Nat)(xs:LA)(w:Wl)(h:zB w 215 2 v n xs)(hn:n≤4294967296):zS TP 196 #[v] w fun r w'=>zB w' 215 2 r n xs∧(∀b∈zu r,w.heap.size≤b)∧zk [] w w':=by
 obtain⟨p,c,rfl,_⟩:=h.val
 refine A1 Tryz.func196 U U ?_
 refine Sr (Oa U (E1 0 U (zf (Sr (Om U (Og (zlP yD U U) U (E2 0 4 U ?_)))))))
 refine zP U (fun hT=>?_) (fun hF=>?_)
 ·refine Sr (Oa U (E1 2 U (zj ?_)))
  refine zbW ?_
  refine zw U U ?_
  rcases h with⟨_,rfl,rfl⟩|⟨b,off,cap,cc,he,_⟩
  ·exact⟨zB.nil _ _ _,by simp[zu],zk.refl _ _⟩
  simp only[Value.slice.injEq]at he
  rw[he.1]at hT
  simp at hT
 refine zm (Sr ?_)
 refine Oq (zA ziC U (vs:=[]) U (css:=[]) trivial U U (cs:=[]) U U ?_)
 intro b5 w5 e5 n5 c5 k5
 refine Om U ?_
 refine Oq (yr ziC yD U U (zB.of_blk (n:=0) k5 (by simp) (by simp[maxLen]) (by simp)) (h.chg0 c5) (by simp only[maxLen];omega) (by omega) U ?_)
 intro v7 w7 i7 c7 o7 z7
 refine Oa U (E1 2 U (zj ?_))
 refine zw U U ?_
 refine⟨by simpa using i7,?_,c5.own c7 (by simp[zu,←e5])⟩
 rcases o7 with o7|⟨b,o7,hb⟩
 ·rw[o7];simp[zu,←e5]
 rw[o7];intro x hx;simp at hx;subst hx;have:=c5.size;omega
theorem f31(v:Va)(n:Nat)(xs:LA)(w:Wl)(h:zB w 176 1 v n xs)(hn:n≤4294967296):zS TP 93 #[v] w fun r w'=>zB w' 176 1 r n xs∧(∀b∈zu r,w.heap.size≤b)∧zk [] w w':=by
 obtain⟨p,c,rfl,_⟩:=h.val
 refine A1 Tryz.func93 U U ?_
 refine Sr (Oa U (E1 0 U (zf (Sr (Om U (Og (zlP zbf U U) U (E2 0 4 U ?_)))))))
 refine zP U (fun hT=>?_) (fun hF=>?_)
 ·refine Sr (Oa U (E1 2 U (zj ?_)))
  refine zbW ?_
  refine zw U U ?_
  rcases h with⟨_,rfl,rfl⟩|⟨b,off,cap,cc,he,_⟩
  ·exact⟨zB.nil _ _ _,by simp[zu],zk.refl _ _⟩
  simp only[Value.slice.injEq]at he
  rw[he.1]at hT
  simp at hT
 refine zm (Sr ?_)
 refine Oq (zA znA U (vs:=[]) U (css:=[]) trivial U U (cs:=[]) U U ?_)
 intro b5 w5 e5 n5 c5 k5
 refine Om U ?_
 refine Oq (yr znA zbf U U (zB.of_blk (n:=0) k5 (by simp) (by simp[maxLen]) (by simp)) (h.chg0 c5) (by simp only[maxLen];omega) (by omega) U ?_)
 intro v7 w7 i7 c7 o7 z7
 refine Oa U (E1 2 U (zj ?_))
 refine zw U U ?_
 refine⟨by simpa using i7,?_,c5.own c7 (by simp[zu,←e5])⟩
 rcases o7 with o7|⟨b,o7,hb⟩
 ·rw[o7];simp[zu,←e5]
 rw[o7];intro x hx;simp at hx;subst hx;have:=c5.size;omega
theorem f53(n:Nat)(w:Wl)(hn:n≤4294967296):zS TP 322 #[.slice none 0 0,Ii n] w fun r w'=>zB w' 176 1 r 0 []∧(∀b∈zu r,w.heap.size≤b)∧zk [] w w':=by
 refine A2 Tryz.func322 U U ?_
 refine Sr (Oa U (E2 0 1 U (zf (Sr (Om U (Og (zz U U) U (E3 0 1 6 U ?_)))))))
 refine zP U (fun hT=>?_) (fun hF=>?_)
 ·exfalso
  have:=of_decide_eq_true hT
  omega
 refine zm (zf (Sr (Om U (Om U (Og (zgX zbf U) U (Om U (On zbf U ?_)))))))
 refine Og (yM U U (by omega)) U ?_
 refine Og (yv (v':=Ii n) (yM U U (by omega)) (by congr 1<;>omega)) U ?_
 refine Oa U (E2 0 1 U (Sr (Om U (Og (zU U U) U (E3 0 1 16 U ?_)))))
 refine zP U (fun hT=>?_) (fun hF=>?_)
 ·have hpos:0<n:=by have:=of_decide_eq_true hT;omega
  refine za (Om U (Om U (Og (zgX zbf U) U ?_)))
  refine Og (zbq zbf zb3 U U _ U (by omega)) U ?_
  refine Om U ?_
  refine Oq (zdO znA zaB U U U (zB.nil _ _ _) (fun p c he=>by simp[cut]at he;omega) (by simp only[maxLen];omega) (by omega) U ?_)
  intro b cap zs w22 hb c22 hge hle hzl hone k22
  refine Om U (On zbf U ?_)
  refine Og (zbq zbf zb3 U U 0 U (by omega)) U ?_
  refine Oa U (E1 0 U (Sr (Om U (Oa U (E1 4 U (zj ?_))))))
  refine zw U U ?_
  have hsl:zeZ w22 176 1 b 0 (0+n) cap ([]++zs) (((([]++zs):LA).drop 0).take ((0+n)*1)):=⟨k22,hge,hle,by simp only[List.nil_append];omega,rfl,hone⟩
  have hc:=hsl.cut (l:=0) (h:=0) (m:=cap) (Nat.le_refl _) (Zl _) (Nat.le_refl _)
  refine⟨by simpa using hc,fun x hx=>?_,c22⟩
  have:=zB.cutBlk (len:=0) (cap:=0) x hx
  simp[zu]at this
  omega
 refine zm (Sr (Om U (Oa U (E1 4 U (zj ?_)))))
 refine zw U U ?_
 exact⟨zB.nil _ _ _,by simp[zu],zk.refl _ _⟩
theorem f55(n:Nat)(w:Wl)(hn:n≤4294967296):zS TP 356 #[.slice none 0 0,Ii n] w fun r w'=>zB w' 215 2 r 0 []∧(∀b∈zu r,w.heap.size≤b)∧zk [] w w':=by
 refine A2 Tryz.func356 U U ?_
 refine Sr (Oa U (E2 0 1 U (zf (Sr (Om U (Og (zz U U) U (E3 0 1 6 U ?_)))))))
 refine zP U (fun hT=>?_) (fun hF=>?_)
 ·exfalso
  have:=of_decide_eq_true hT
  omega
 refine zm (zf (Sr (Om U (Om U (Og (zgX yD U) U (Om U (On yD U ?_)))))))
 refine Og (yM U U (by omega)) U ?_
 refine Og (yv (v':=Ii n) (yM U U (by omega)) (by congr 1<;>omega)) U ?_
 refine Oa U (E2 0 1 U (Sr (Om U (Og (zU U U) U (E3 0 1 16 U ?_)))))
 refine zP U (fun hT=>?_) (fun hF=>?_)
 ·have hpos:0<n:=by have:=of_decide_eq_true hT;omega
  refine za (Om U (Om U (Og (zgX yD U) U ?_)))
  refine Og (zbq yD zaA U U _ U (by omega)) U ?_
  refine Om U ?_
  refine Oq (zdO ziC zaB U U U (zB.nil _ _ _) (fun p c he=>by simp[cut]at he;omega) (by simp only[maxLen];omega) (by omega) U ?_)
  intro b cap zs w22 hb c22 hge hle hzl hone k22
  refine Om U (On yD U ?_)
  refine Og (zbq yD zaA U U 0 U (by omega)) U ?_
  refine Oa U (E1 0 U (Sr (Om U (Oa U (E1 4 U (zj ?_))))))
  refine zw U U ?_
  have hsl:zeZ w22 215 2 b 0 (0+n) cap ([]++zs) (((([]++zs):LA).drop 0).take ((0+n)*2)):=⟨k22,hge,hle,by simp only[List.nil_append];omega,rfl,hone⟩
  have hc:=hsl.cut (l:=0) (h:=0) (m:=cap) (Nat.le_refl _) (Zl _) (Nat.le_refl _)
  refine⟨by simpa using hc,fun x hx=>?_,c22⟩
  have:=zB.cutBlk (len:=0) (cap:=0) x hx
  simp[zu]at this
  omega
 refine zm (Sr (Om U (Oa U (E1 4 U (zj ?_)))))
 refine zw U U ?_
 exact⟨zB.nil _ _ _,by simp[zu],zk.refl _ _⟩
theorem f42(v:Va)(us:LA)(xss:List (LA))(w:Wl)(hu:zB w 173 1 v xss.length us)(ha:zhm w 176 1 us xss)(ht:zb1 1 xss xss.length≤4294967296)(hlen:xss.length≤4294967296) :
 zS TP 262 #[v] w fun r w'=>zB w' 176 1 r (zb1 1 xss xss.length) xss.flatten∧(∀b∈zu r,w.heap.size≤b)∧zk [] w w':=by
 have part:∀(wx:Wl) (i:Nat),zk [] w wx→i<xss.length→∃b off cap x p c,v=.slice (some ⟨b,off,none⟩) xss.length cap∧xss[i]?=some x∧wx.cell? ⟨b,off+i*1,none⟩=some (.slice p (x.length/1) c)∧zB wx 176 1 (.slice p (x.length/1) c) (x.length/1) x:=by
  intro wx i hc hi
  obtain⟨b,off,cap,u,hv,hu',hcell⟩:=(hu.chg0 hc).at1 hi
  have hx:xss[i]?=some xss[i]:=by simp[hi]
  obtain⟨u',hu2,hs⟩:=(ha.chg0 hc).at hx
  rw[hu']at hu2
  simp at hu2
  subst hu2
  obtain⟨p,c,rfl,_⟩:=hs.val
  exact⟨b,off,cap,_,p,c,hv,hx,hcell,hs⟩
 obtain⟨pv,cv,rfl,_⟩:=hu.val
 refine A1 Tryz.func262 U U ?_
 refine Sr (Oa U (E1 0 U (Sr (Oa U (E2 0 3 U (zf (Sr (Om U (On zmE U (Om U (E5 0 3 9 10 11 U (zp ?_))))))))))))
 refine zQ [0,3,9,10,11] (fun m F wx=>wx=w∧∃j:Nat,m=xss.length-j∧j≤xss.length∧F=[(0,.slice pv xss.length cv),(3,Ii (zb1 1 xss j:Nat)),(9,.slice pv xss.length cv),(10,Ii xss.length),(11,Ii j)]) (m:=xss.length-0) ⟨U,0,U,Zl _,U⟩ ?_
 rintro m F wx⟨rfl,j,rfl,hj,rfl⟩
 have hmj:=zcz 1 xss hj
 refine Sr (Og (zz U U) U (E6 0 3 9 10 11 12 U (zf ?_)))
 refine zP U (fun hT=>?_) (fun hF=>?_)
 ·refine zm ?_
  have hlt:j<xss.length:=by simpa using hT
  obtain⟨b,off,cap,x,p,c,hv,hx,hcell,hs⟩:=part wx j (zk.refl _ _) hlt
  cases hv
  have hsucc:=zew (k:=1) hx
  have hmj2:=zcz 1 xss (show j+1≤xss.length by omega)
  refine zf (zp (Sr ?_))
  refine Og (zi zmE zjQ U U _ U hlt) U ?_
  refine Ol zce U hcell (Oa U (E6 0 3 5 9 10 11 U (Sr (Om U (Om U (On zbf U ?_))))))
  refine Og (zG U U (by omega)) U ?_
  refine Oa U (E5 0 3 9 10 11 U (Sr (Om U (Og (zz U U) U (E6 0 3 9 10 11 20 U ?_)))))
  refine zP U (fun hT=>?_) (fun hF=>?_)
  ·exfalso
   have:=of_decide_eq_true hT
   omega
  refine zT (zl (za ?_))
  refine Og (zG U U (by omega)) U ?_
  refine Om U (N5 0 3 9 10 11 U ?_)
  refine⟨xss.length-(j+1),by omega,rfl,j+1,rfl,by omega,?_⟩
  rw[hsucc]
  rfl
 have hge:¬ j<xss.length:=by simpa using hF
 obtain rfl:j=xss.length:=by omega
 refine zI ?_
 repeat first|refine te ?_|refine bo rfl ?_
 refine zq _ ?_
 refine Sr (Om U ?_)
 refine Oc zCp U U U (f53 (zb1 1 xss xss.length) wx ht) ?_
 rintro v24 w24⟨i24,n24,c24⟩
 refine Oa U (E2 0 6 U (zf (Sr (Om U (On zmE U (Om U (E4 6 25 26 27 U (zp ?_))))))))
 refine zQ [6,25,26,27] (fun m F wy=>∃(j:Nat) (acc:Va),m=xss.length-j∧j≤xss.length∧F=[(6,acc),(25,.slice pv xss.length cv),(26,Ii xss.length),(27,Ii j)]∧zB wy 176 1 acc (zb1 1 xss j) (xss.take j).flatten∧(∀b∈zu acc,wx.heap.size≤b)∧zk [] wx wy) (m:=xss.length-0) ⟨0,v24,rfl,Zl _,rfl,by simpa[zb1] using i24,n24,c24⟩ ?_
 rintro m F wy⟨j,acc,rfl,hj,rfl,hacc,hnew,hcy⟩
 have hmj:=zcz 1 xss hj
 refine Sr (Og (zz U U) U (E5 6 25 26 27 28 U (zf ?_)))
 refine zP U (fun hT=>?_) (fun hF=>?_)
 ·refine zm ?_
  have hlt:j<xss.length:=by simpa using hT
  obtain⟨b,off,cap,x,p,c,hv,hx,hcell,hs⟩:=part wy j hcy hlt
  cases hv
  have hsucc:=zew (k:=1) hx
  have hmj2:=zcz 1 xss (show j+1≤xss.length by omega)
  refine zf (zp (Sr ?_))
  refine Og (zi zmE zjQ U U _ U hlt) U ?_
  refine Ol zce U hcell (Oa U (E5 6 8 25 26 27 U (za (Om U (Om U ?_)))))
  refine Oq (yr znA zbf U U hacc hs (by simp only[maxLen];omega) (by omega) U ?_)
  intro v33 w33 i33 c33 o33 z33
  refine Oa U (N4 6 25 26 27 U (zl (za ?_)))
  refine Og (zG U U (by omega)) U ?_
  refine Om U (N4 6 25 26 27 U ?_)
  refine⟨xss.length-(j+1),by omega,j+1,v33,rfl,by omega,rfl,?_,?_,hcy.own c33 hnew⟩
  ·rw[hsucc,zeR hx]
   exact i33
  rcases o33 with o33|⟨b',o33,hb'⟩
  ·rw[o33];exact hnew
  rw[o33];intro y hy;simp at hy;subst hy;have:=hcy.size;omega
 have hge:¬ j<xss.length:=by simpa using hF
 obtain rfl:j=xss.length:=by omega
 refine zI ?_
 repeat first|refine te ?_|refine bo rfl ?_
 refine zq _ ?_
 refine Sr (Om U (Oa U (E1 2 U (zj ?_))))
 refine zw U U ?_
 rw[List.take_length]at hacc
 exact⟨hacc,hnew,hcy⟩
theorem f45(v:Va)(us:LA)(xss:List (LA))(w:Wl)(hu:zB w 176 1 v xss.length us)(ha:zhm w 215 2 us xss)(ht:zb1 2 xss xss.length≤4294967296)(hlen:xss.length≤4294967296) :
 zS TP 335 #[v] w fun r w'=>zB w' 215 2 r (zb1 2 xss xss.length) xss.flatten∧(∀b∈zu r,w.heap.size≤b)∧zk [] w w':=by
 have part:∀(wx:Wl) (i:Nat),zk [] w wx→i<xss.length→∃b off cap x p c,v=.slice (some ⟨b,off,none⟩) xss.length cap∧xss[i]?=some x∧wx.cell? ⟨b,off+i*1,none⟩=some (.slice p (x.length/2) c)∧zB wx 215 2 (.slice p (x.length/2) c) (x.length/2) x:=by
  intro wx i hc hi
  obtain⟨b,off,cap,u,hv,hu',hcell⟩:=(hu.chg0 hc).at1 hi
  have hx:xss[i]?=some xss[i]:=by simp[hi]
  obtain⟨u',hu2,hs⟩:=(ha.chg0 hc).at hx
  rw[hu']at hu2
  simp at hu2
  subst hu2
  obtain⟨p,c,rfl,_⟩:=hs.val
  exact⟨b,off,cap,_,p,c,hv,hx,hcell,hs⟩
 obtain⟨pv,cv,rfl,_⟩:=hu.val
 refine A1 Tryz.func335 U U ?_
 refine Sr (Oa U (E1 0 U (Sr (Oa U (E2 0 3 U (zf (Sr (Om U (On ziO U (Om U (E5 0 3 9 10 11 U (zp ?_))))))))))))
 refine zQ [0,3,9,10,11] (fun m F wx=>wx=w∧∃j:Nat,m=xss.length-j∧j≤xss.length∧F=[(0,.slice pv xss.length cv),(3,Ii (zb1 2 xss j:Nat)),(9,.slice pv xss.length cv),(10,Ii xss.length),(11,Ii j)]) (m:=xss.length-0) ⟨U,0,U,Zl _,U⟩ ?_
 rintro m F wx⟨rfl,j,rfl,hj,rfl⟩
 have hmj:=zcz 2 xss hj
 refine Sr (Og (zz U U) U (E6 0 3 9 10 11 12 U (zf ?_)))
 refine zP U (fun hT=>?_) (fun hF=>?_)
 ·refine zm ?_
  have hlt:j<xss.length:=by simpa using hT
  obtain⟨b,off,cap,x,p,c,hv,hx,hcell,hs⟩:=part wx j (zk.refl _ _) hlt
  cases hv
  have hsucc:=zew (k:=2) hx
  have hmj2:=zcz 2 xss (show j+1≤xss.length by omega)
  refine zf (zp (Sr ?_))
  refine Og (zi ziO zb3 U U _ U hlt) U ?_
  refine Ol zeE U hcell (Oa U (E6 0 3 5 9 10 11 U (Sr (Om U (Om U (On yD U ?_))))))
  refine Og (zG U U (by omega)) U ?_
  refine Oa U (E5 0 3 9 10 11 U (Sr (Om U (Og (zz U U) U (E6 0 3 9 10 11 20 U ?_)))))
  refine zP U (fun hT=>?_) (fun hF=>?_)
  ·exfalso
   have:=of_decide_eq_true hT
   omega
  refine zT (zl (za ?_))
  refine Og (zG U U (by omega)) U ?_
  refine Om U (N5 0 3 9 10 11 U ?_)
  refine⟨xss.length-(j+1),by omega,rfl,j+1,rfl,by omega,?_⟩
  rw[hsucc]
  rfl
 have hge:¬ j<xss.length:=by simpa using hF
 obtain rfl:j=xss.length:=by omega
 refine zI ?_
 repeat first|refine te ?_|refine bo rfl ?_
 refine zq _ ?_
 refine Sr (Om U ?_)
 refine Oc zCM U U U (f55 (zb1 2 xss xss.length) wx ht) ?_
 rintro v24 w24⟨i24,n24,c24⟩
 refine Oa U (E2 0 6 U (zf (Sr (Om U (On ziO U (Om U (E4 6 25 26 27 U (zp ?_))))))))
 refine zQ [6,25,26,27] (fun m F wy=>∃(j:Nat) (acc:Va),m=xss.length-j∧j≤xss.length∧F=[(6,acc),(25,.slice pv xss.length cv),(26,Ii xss.length),(27,Ii j)]∧zB wy 215 2 acc (zb1 2 xss j) (xss.take j).flatten∧(∀b∈zu acc,wx.heap.size≤b)∧zk [] wx wy) (m:=xss.length-0) ⟨0,v24,rfl,Zl _,rfl,by simpa[zb1] using i24,n24,c24⟩ ?_
 rintro m F wy⟨j,acc,rfl,hj,rfl,hacc,hnew,hcy⟩
 have hmj:=zcz 2 xss hj
 refine Sr (Og (zz U U) U (E5 6 25 26 27 28 U (zf ?_)))
 refine zP U (fun hT=>?_) (fun hF=>?_)
 ·refine zm ?_
  have hlt:j<xss.length:=by simpa using hT
  obtain⟨b,off,cap,x,p,c,hv,hx,hcell,hs⟩:=part wy j hcy hlt
  cases hv
  have hsucc:=zew (k:=2) hx
  have hmj2:=zcz 2 xss (show j+1≤xss.length by omega)
  refine zf (zp (Sr ?_))
  refine Og (zi ziO zb3 U U _ U hlt) U ?_
  refine Ol zeE U hcell (Oa U (E5 6 8 25 26 27 U (za (Om U (Om U ?_)))))
  refine Oq (yr ziC yD U U hacc hs (by simp only[maxLen];omega) (by omega) U ?_)
  intro v33 w33 i33 c33 o33 z33
  refine Oa U (N4 6 25 26 27 U (zl (za ?_)))
  refine Og (zG U U (by omega)) U ?_
  refine Om U (N4 6 25 26 27 U ?_)
  refine⟨xss.length-(j+1),by omega,j+1,v33,rfl,by omega,rfl,?_,?_,hcy.own c33 hnew⟩
  ·rw[hsucc,zeR hx]
   exact i33
  rcases o33 with o33|⟨b',o33,hb'⟩
  ·rw[o33];exact hnew
  rw[o33];intro y hy;simp at hy;subst hy;have:=hcy.size;omega
 have hge:¬ j<xss.length:=by simpa using hF
 obtain rfl:j=xss.length:=by omega
 refine zI ?_
 repeat first|refine te ?_|refine bo rfl ?_
 refine zq _ ?_
 refine Sr (Om U (Oa U (E1 2 U (zj ?_))))
 refine zw U U ?_
 rw[List.take_length]at hacc
 exact⟨hacc,hnew,hcy⟩
def Pg(w:Wl)(p:Nat)(ls:LE):Prop:=∃v,zO w p 178 [v]∧yB w v ls
theorem Pg.chg0{w w':Wl}{p:Nat}{ls:LE}(h:Pg w p ls)(hc:zk [] w w'):Pg w' p ls:=
 let ⟨v,h1,h2⟩:=h; ⟨v,h1.chg0 hc,h2.chg0 hc⟩
theorem Pg.lt{w:Wl}{p:Nat}{ls:LE}(h:Pg w p ls):p<w.heap.size:=let ⟨_,h1,_⟩:=h;h1.lt
theorem Pg.chgO{w w':Wl}{p q:Nat}{ls ms:LE}(h:Pg w p ls)(hq:Pg w q ms)(hne:p≠q)(hc:zk [q] w w'):Pg w' p ls:=
 let ⟨v,h1,h2⟩:=h;let ⟨_,g1,_⟩:=hq; ⟨v,h1.chg hc (by simpa using hne),h2.chg1 g1 rfl rfl hc⟩
theorem f26(p:Nat)(ls new:LE)(lv:Va)(fr un:Nat)(w:Wl)(hp:Pg w p ls)(hnew:yB w lv new)(h1:fr≤un)(h2:un≤ls.length)(hb1:ls.length≤1048576)(hb2:new.length≤1048576) :
 zS TP 197 #[Pt p,Ii fr,Ii un,lv] w fun r w'=>r=.tuple #[]∧Pg w' p (ls.take fr++new++ls.drop un)∧zk [p] w w':=by
 obtain⟨v,hb,vs,hsl,hal⟩:=hp
 obtain⟨nvs,hnsl,hnal⟩:=hnew
 obtain⟨pv,cv,rfl,hlc⟩:=hsl.val
 obtain⟨pn,cn,rfl,_⟩:=hnsl.val
 have hvl:=hsl.len_xs
 have hnl:=hnsl.len_xs
 have hA:zB w 176 1 (cut pv 0 fr fr 1) ((vs.take fr).length/1) (vs.take fr):=by
  have:=hsl.cut (l:=0) (h:=fr) (m:=fr) (Zl _) (Nat.le_refl _) (by omega) (by omega)
  simpa[show min fr vs.length=fr by omega] using this
 have hB:zB w 176 1 (.slice pn new.length cn) (nvs.length/1) nvs:=by simpa[hnl] using hnsl
 have hC:zB w 176 1 (cut pv un ls.length cv 1) ((vs.drop un).length/1) (vs.drop un):=by
  have:=hsl.cut (l:=un) (h:=ls.length) (m:=cv) (by omega) hlc (Nat.le_refl _) (Nat.le_refl _)
  have e:(vs.drop (un*1)).take ((ls.length-un)*1)=vs.drop un:=by rw[Nat.mul_one,Nat.mul_one,Tl (by simp;omega)]
  rw[e]at this
  simpa[hvl] using this
 have hS:zhm w 176 1 [cut pv 0 fr fr 1,.slice pn new.length cn,cut pv un ls.length cv 1] [vs.take fr,nvs,vs.drop un]:=⟨hA,hB,hC,Tt⟩
 have hsum:zb1 1 [vs.take fr,nvs,vs.drop un] 3=fr+new.length+(ls.length-un):=by
  simp[zb1,hvl,hnl,show min fr ls.length=fr by omega]
  omega
 refine A4 Tryz.func197 U U ?_
 refine zH (fun wz=>zk [] w wz) mix (by kernel_rfl) (zk.drew [] w) ?_
 refine Tm U (Tm U (Tp (fun _=>zx U) U (Td zat U (Tr (fun wz hz=>zg zce U ((hb.chg0 hz).cell' U)) U (Tm U (Tm U ?_))))))
 refine Tp (fun _=>zgK zbf zb3 U U U _ _ U U (by omega) (by omega)) U ?_
 refine Tm U (Tm U (Tp (fun _=>zx U) U (Td zat U (Tr (fun wz hz=>zg zce U ((hb.chg0 hz).cell' U)) U (Tm U ?_)))))
 refine Tp (fun _=>zbe zbf zb3 U U _ U (by omega)) U ?_
 refine zaR U (gn U) (zA zCw U (vs:=[_,_,_]) U (css:=[_,_,_]) ⟨U,U,U,Tt⟩ U U (cs:=[_,_,_]) U U ?_)
 intro b23 w23 e23 n23 c23 k23
 refine⟨.inl ((zk.drew [] w).trans c23),?_⟩
 refine Tc zCg U U U (f42 _ _ [vs.take fr,nvs,vs.drop un] _ (zB.of_blk (n:=3) k23 U (by simp[maxLen]) (by intro u hu;simp at hu;rcases hu with rfl|rfl|rfl<;>rfl)) (hS.chg0 ((zk.drew [] w).trans c23)) (by simp only[List.length_cons,List.length_nil];rw[hsum];omega) (by simp)) ?_
 rintro v24 w24⟨i24,n24,c24⟩
 obtain⟨p24,q24,rfl,_⟩:=i24.val
 refine⟨.inl (((zk.drew [] w).trans c23).trans c24),?_⟩
 refine Tp (fun _=>zx U) U (Td zat U ?_)
 refine zaR U (gn U) (zt zjQ U U U U (hb.chg0 (((zk.drew [] w).trans c23).trans c24)) (by simp) (by intro u hu;simp at hu;subst hu;rfl) ?_)
 intro wF nF cF kF
 refine⟨.inr (by kernel_rfl),?_⟩
 refine zdI [] (F':=[]) U ?_
 have hall:zk [] w w24:=((zk.drew [] w).trans c23).trans c24
 refine zgL U ⟨U,⟨_,kF,?_⟩,(hall.any (S:=[p])).transS cF⟩
 have hpg:yB w24 (.slice p24 (zb1 1 [vs.take fr,nvs,vs.drop un] 3) q24) (ls.take fr++new++ls.drop un):=by
  refine⟨vs.take fr++nvs++vs.drop un,?_,((hal.take fr).append hnal |>.append (hal.drop un)).chg hall (by simp)⟩
  have hlen:(ls.take fr++new++ls.drop un).length=zb1 1 [vs.take fr,nvs,vs.drop un] 3:=by
   rw[hsum];simp;omega
  rw[hlen]
  simpa using i24
 exact hpg.chg1 (hb.chg0 hall) U U cF
def zBR:zfZ TP 263=some (Extern.SlicesOverlaps.overlaps #[175,175] #[4]):=by kernel_rfl
set_option maxHeartbeats 1000000 in
theorem f27(v u:Va)(i n:Nat)(xs ys:LA)(w:Wl)(hv:zB w 215 2 v n xs)(hu:zB w 215 2 u 1 ys)(hi:i≤n)(hn:n≤1048576)(hap:∀b∈zu u,b∉zu v) :
 zS TP 198 #[v,Ii i,u] w fun r w'=>zB w' 215 2 r (n+1) (xs.take (i*2)++ys++xs.drop (i*2))∧zk (zu v) w w'∧(zu r=zu v∨∃b,zu r=[b]∧w.heap.size≤b):=by
 have hlx:=hv.len_xs
 have hly:=hu.len_xs
 obtain⟨pv,cv,rfl,hlc⟩:=hv.val
 obtain⟨pu,cu,rfl,_⟩:=hu.val
 refine A3 Tryz.func198 U U ?_
 refine Sr (Oa U (E3 0 1 2 U (Sr (Om U (Om U ?_)))))
 refine Og (zbe yD zaA U U _ U hi) U ?_
 refine E3 0 1 2 U (Sr (Om U (On zj6 U (Oa U (E4 0 1 2 7 U (zf (Sr (Om U (Og (zy U U) U (E5 0 1 2 7 16 U (zb U (zm (Sr (Om U (On yD U (Oa U (E5 0 1 2 7 8 U (zf (Sr (Om U (Om U (Og (zy U U) U (E6 0 1 2 7 8 22 U ?_)))))))))))))))))))))))
 refine zP U (fun hT=>?_) (fun hF=>?_)
 ·obtain rfl:i=n:=by have:=of_decide_eq_true hT;omega
  refine Sr (Om U (Om U ?_))
  refine Oq (yr ziC zj6 U U hv hu (by simp only[maxLen];omega) (by omega) U ?_)
  intro v25 w25 i25 c25 o25 z25
  refine Oa U (E1 6 U (zj ?_))
  refine zbW ?_
  refine zw U U ?_
  refine⟨?_,c25,o25⟩
  rw[Tl (by omega),List.drop_of_length_le (by omega),List.append_nil]
  exact i25
 have hlt:i<n:=by have:=of_decide_eq_false hF;omega
 refine zm (zf (Sr (Om U (Om U ?_))))
 refine Og (zG U U (by omega)) U ?_
 refine Om U (Og (zgX yD U) U (Og (zU U U) U (E6 0 1 2 7 8 31 U ?_)))
 refine zP U (fun hT=>?_) (fun hF=>?_)
 ·have hgr:cv<n+1:=by have:=of_decide_eq_true hT;omega
  refine Sr (Om U (Om U ?_))
  refine Og (zbq yD zaA U U i U (by omega)) U ?_
  refine Om U (Om U ?_)
  refine Og (zG U U (by omega)) U ?_
  refine Om U ?_
  refine Og (yv (v':=Ii ((n+1-i:Nat):Int)) (yM U U (by omega)) (by congr 1;omega)) U ?_
  have hcutA:zB w 215 2 (cut pv 0 i cv 2) i (xs.take (i*2)):=by simpa using hv.cut (l:=0) (h:=i) (m:=cv) (Zl _) (by omega) (Nat.le_refl _) hi
  have hcutB:zB w 215 2 (cut pv i n cv 2) (n-i) (xs.drop (i*2)):=by
   have:=hv.cut (l:=i) (h:=n) (m:=cv) hi hlc (Nat.le_refl _) (Nat.le_refl _)
   rw[Tl (by simp;omega)]at this
   exact this
  have hAl:(xs.take (i*2)).length=i*2:=by simp;omega
  have hBl:(xs.drop (i*2)).length=(n-i)*2:=by simp;omega
  refine Oq (zdO ziC zaB U U U hcutA (fun p c he=>by obtain⟨q,hq⟩:=zvW pv 0 i cv 2;rw[hq]at he;simp only[Value.slice.injEq]at he;omega) (by simp only[maxLen];omega) (by omega) U ?_)
  intro b cap zs w40 hb c40 hge hle hzl hone k40
  refine Og (yv (v':=.slice (some ⟨b,0,none⟩) (n+1) cap) (yg U) (by congr 1;omega)) U ?_
  refine E5 0 1 2 7 9 U (Sr (Om U (Om U ?_)))
  refine Og (yv (zbe yD zaA U U i U (by omega)) (zgl (by omega))) U ?_
  refine Om U ?_
  refine Oq (zjb (c:=1) yD zaA U U (hu.chg0 c40) k40 (by omega) (by simp;omega) U ?_)
  intro w45 n45 c45 k45
  refine E4 0 1 7 9 U (zf ?_)
  have hc2:zk [] w w45.drew:=(c40.own c45 (by simp[←hb])).trans (zk.drew [] _)
  have k45':zO w45.drew b 215 _:=k45
  rw[show 0+i*2=(xs.take (i*2)).length by omega,zev,Tl (show ys.length≤1*2 by omega)]at k45'
  rw[←List.append_assoc]at k45'
  refine zH (fun _=>True) mix (by kernel_rfl) trivial ?_
  refine Tm U (Tm U (Tm U ?_))
  refine Tp (fun _=>zG U U (by omega)) U ?_
  refine Tp (fun _=>yv (zbe yD zaA U U (i+1) U (by omega)) (zgl (by omega))) U ?_
  refine Tm U (Tm U (Tp (fun _=>zbe yD zaA U U i U hi) U ?_))
  refine zaR U (gn U) (zjb (c:=n-i) yD zaA U U (hcutB.chg0 hc2) k45' (by omega) (by simp only[Sa,List.length_drop,hAl];omega) U ?_)
  intro w54 n54 c54 k54
  refine⟨.inl trivial,?_⟩
  refine D1 9 U (Sr (Om U (Oa U (E1 6 U (zj ?_)))))
  refine zbW ?_
  refine zw U U ?_
  rw[show 0+(i+1)*2=(xs.take (i*2)++ys).length by rw[Sa];omega,zev,Tl (show (xs.drop (i*2)).length≤(n-i)*2 by omega)]at k54
  refine⟨.inr ⟨b,0,cap,_,rfl,k54,(by omega),hle,?_,?_,?_⟩,((hc2.own c54 (by simp[←hb])).any),.inr ⟨b,rfl,by omega⟩⟩
  ·simp only[Sa,List.length_drop,hAl];omega
  ·rw[List.drop_zero,←List.append_assoc,List.take_left' (by simp only[Sa];omega)]
  intro q hq
  simp only[List.mem_append]at hq hone
  rcases hq with (hq|hq)|hq|hq
  ·exact hone q (.inl hq)
  ·exact hu.one_xs q hq
  ·exact hv.one_xs q (List.mem_of_mem_drop hq)
  exact hone q (.inr (List.mem_of_mem_drop (List.mem_of_mem_drop hq)))
 have hroom:n+1≤cv:=by have:=of_decide_eq_false hF;omega
 obtain⟨b,off,c,rfl,hs⟩:∃b off c,pv=some ⟨b,off,none⟩∧zeZ w 215 2 b off n cv c xs:=by
  rcases hv with⟨he,_,_⟩|⟨b,off,cap,c,he,hs⟩
  ·simp only[Value.slice.injEq]at he;omega
  simp only[Value.slice.injEq]at he
  obtain⟨rfl,_,rfl⟩:=he
  exact⟨b,off,c,U,hs⟩
 obtain⟨bu,ou,cu',rfl,hsu⟩:∃b off c,pu=some ⟨b,off,none⟩∧zeZ w 215 2 b off 1 cu c ys:=by
  rcases hu with⟨_,h1,_⟩|⟨b,off,cap,c,he,hs⟩
  ·omega
  simp only[Value.slice.injEq]at he
  obtain⟨rfl,_,rfl⟩:=he
  exact⟨b,off,c,U,hs⟩
 have hne:bu≠b:=by have:=hap bu (by simp[zu]);simpa[zu] using this
 have hfit:=hs.fit
 have hsn:zeZ w 215 2 b off (n+1) cv c ((c.drop off).take ((n+1)*2)):=⟨hs.blk,hroom,hs.max,hs.fit,rfl,hs.one⟩
 have hsrc:=hsn.cut (l:=i) (h:=n+1) (m:=cv) (by omega) hroom (Nat.le_refl _)
 rw[zgl (by omega)]at hsrc
 refine zm (Sr (Om U (Om U (Om U ?_))))
 refine Og (zG U U (by omega)) U ?_
 refine Og (yv (zbq yD zaA U U (n+1) U hroom) zmf) U (Oa U (E5 0 1 2 7 8 U (zf (Sr (Om U (Om U (Om U (Om U ?_))))))))
 refine Og (zG U U (by omega)) U ?_
 refine Og (yv (zbe yD zaA U U (i+1) U (by omega)) (zgl (by omega))) U ?_
 refine Oq (zdi zBR U U (zlZ U zj6 zaA hsu.blk hs.blk hne) U ?_)
 refine Og (zC U) U (E6 0 1 2 7 8 68 U (ze U (zf ?_)))
 refine zH (fun _=>True) mix (by kernel_rfl) trivial ?_
 refine Tm U (Tm U (Tm U ?_))
 refine Tp (fun _=>zG U U (by omega)) U ?_
 refine Tp (fun _=>yv (zbe yD zaA U U (i+1) U (by omega)) (zgl (by omega))) U ?_
 refine Tm U (Tm U ?_)
 refine Tp (fun _=>yv (zbe yD zaA U U i U (by omega)) (zgl (by omega))) U ?_
 refine zaR U (gn U) (zjb (c:=n-i) yD zaA U U (hsrc.chg0 (zk.drew [] _)) (hs.blk.chg0 (zk.drew [] _)) (by omega) (by omega) U ?_)
 intro w77 n77 c77 k77
 refine⟨.inl trivial,?_⟩
 refine D3 0 1 2 U ?_
 have hc77:zk [b] w w77:=(zk.drew [b] w).transS c77
 have hu77:=hu.chg hc77 (by simpa[zu] using hne)
 refine Sr (Om U (Om U ?_))
 refine Og (yv (zbe yD zaA U U i U (by omega)) (zgl (by omega))) U ?_
 refine Om U ?_
 refine Oq (zjb (c:=1) yD zaA U U hu77 k77 (by omega) (by rw[zcr (by simp;omega)];omega) U ?_)
 intro w82 n82 c82 k82
 refine E1 0 U (Sr (Om U (Oa U (E1 6 U (zj ?_)))))
 refine zbW ?_
 refine zw U U ?_
 have hB:((c.drop (off+i*2)).take ((n+1-i)*2)).take ((n-i)*2)=xs.drop (i*2):=by
  rw[List.take_take,hs.xs,List.drop_take,List.drop_drop]
  congr 1
  omega
 have hsplit:c=c.take (off+i*2)++(xs.drop (i*2)++c.drop (off+n*2)):=by
  have e1:c.drop (off+i*2)=xs.drop (i*2)++c.drop (off+n*2):=by
   have e2:=List.take_append_drop ((n-i)*2) (c.drop (off+i*2))
   rw[List.drop_drop,show off+i*2+(n-i)*2=off+n*2 by omega]at e2
   rw[←e2]
   congr 1
   rw[hs.xs,List.drop_take,List.drop_drop]
   congr 1
   omega
  rw[←e1,List.take_append_drop]
 have hAl:(c.take (off+i*2)).length=off+i*2:=by simp;omega
 obtain⟨R,hR,hRm⟩:=zo4 (c.take (off+i*2)) (xs.drop (i*2)) (c.drop (off+n*2)) ys (by simp;omega)
 rw[hB,Tl (show ys.length≤1*2 by omega)]at k82
 rw[←hsplit,hAl,show off+i*2+ys.length=off+(i+1)*2 by omega]at hR
 rw[hR]at k82
 refine⟨.inr ⟨b,off,cv,_,U,k82,hroom,hs.max,?_,?_,?_⟩,hc77.transS c82,.inl U⟩
 ·have hcl:c.length=(c.take (off+i*2)++(ys++(xs.drop (i*2)++R))).length:=by
   rw[←hR,zcr,zcr]
   ·simp;omega
   rw[zcr (by simp;omega)];omega
  rw[←hcl];exact hfit
 ·have e3:(c.take (off+i*2)).drop off=xs.take (i*2):=by
   rw[List.drop_take,hs.xs,List.take_take]
   congr 1
   omega
  rw[List.drop_append_of_le_length (by omega),e3,←List.append_assoc,←List.append_assoc,List.take_left' (by simp;omega)]
 intro q hq
 simp only[List.mem_append]at hq
 rcases hq with hq|hq|hq|hq
 ·exact hs.one q (List.mem_of_mem_take hq)
 ·exact hu.one_xs q hq
 ·exact hs.one_xs q (List.mem_of_mem_drop hq)
 rcases hRm q hq with h|h
 ·exact hs.one q (List.mem_of_mem_drop h)
 exact hs.one_xs q (List.mem_of_mem_drop h)
theorem f28(v:Va)(i n:Nat)(xs:LA)(w:Wl)(hv:zB w 215 2 v n xs)(hi:i<n)(hn:n≤1048576) :
 zS TP 307 #[v,Ii i,Ii ((i:Int)+1)] w fun r w'=>zB w' 215 2 r (n-1) (xs.take (i*2)++xs.drop (i*2+2))∧zk (zu v) w w'∧zu r=zu v:=by
 have hlx:=hv.len_xs
 obtain⟨b,off,cv,c,rfl,hs⟩:∃b off cv c,v=.slice (some ⟨b,off,none⟩) n cv∧zeZ w 215 2 b off n cv c xs:=by
  rcases hv with⟨_,rfl,_⟩|⟨b,off,cap,c,he,hs⟩
  ·omega
  exact⟨b,off,cap,c,he,hs⟩
 have hfit:=hs.fit
 have hlc:=hs.le
 refine A3 Tryz.func307 U U ?_
 refine Sr (Oa U (E3 0 1 2 U (Sr (Om U (Om U (Om U (Om U (On yD U ?_))))))))
 refine Og (zfF yD zaA U U U U i (i+1) n U (by omega) U (by omega) (by omega) (by omega)) U ?_
 refine E3 0 1 2 U (zf (Sr (Om U (Om U ?_))))
 refine Og (vf (zy U U) (by simp;omega)) U ?_
 refine E4 0 1 2 16 U (zb U (zm (Sr (Om U (On yD U (Oa U (E4 0 1 2 7 U (zf ?_))))))))
 have hsrc:=hs.cut (l:=i+1) (h:=n) (m:=cv) (by omega) hlc (Nat.le_refl _)
 have hB:(c.drop (off+(i+1)*2)).take ((n-(i+1))*2)=xs.drop (i*2+2):=by
  rw[hs.xs,List.drop_take,List.drop_drop]
  congr 1
  ·omega
  congr 1;omega
 rw[hB]at hsrc
 have hBl:(xs.drop (i*2+2)).length=(n-(i+1))*2:=by simp;omega
 refine zH (fun _=>True) mix (by kernel_rfl) trivial ?_
 refine Tm U (Tm U ?_)
 refine Tp (fun _=>yv (zbq yD zaA U U i U (by omega)) zmf) U ?_
 refine Tm U (Tm U ?_)
 refine Tp (fun _=>zbe yD zaA U U (i+1) (by omega) (by omega)) U ?_
 refine zaR U (gn U) (zkA yD zaA yD U U (hs.blk.chg0 (zk.drew [] _)) (hsrc.chg0 (zk.drew [] _)) (by omega) hfit U ?_)
 intro w26 n26 c26 k26
 refine⟨.inl trivial,?_⟩
 refine Tp (fun _=>yv (v':=.slice (some ⟨b,off,none⟩) (n-1) cv) (yg U) (by congr 1;omega)) U ?_
 refine D2 0 7 U ?_
 have hl26:(yY c (off+i*2) (xs.drop (i*2+2))).length=c.length:=zcr (by omega)
 refine Sr (Om U (Om U (On yD U (Om U ?_))))
 refine Og (yv (zq2 yD zaA U U U (n-1) n U U (by omega) (by omega)) (zgl (by omega))) U ?_
 refine Oq (zsy ziC U k26 (by rw[hl26];omega) ?_)
 intro w31 zs n31 c31 hzl hzo k31
 refine E1 0 U (Sr (Om U (Oa U (E1 6 U (zj ?_)))))
 refine zw U U ?_
 have hl31:(yY (yY c (off+i*2) (xs.drop (i*2+2))) (off+(n-1)*2) zs).length=c.length:=by rw[zcr (by rw[hl26,hzl];omega),hl26]
 refine⟨.inr ⟨b,off,cv,_,rfl,k31,by omega,hs.max,by rw[hl31];exact hfit,?_,?_⟩,((zk.drew [b] w).transS c26).transS c31,rfl⟩
 ·have hA:(c.take (off+i*2)).drop off=xs.take (i*2):=by
   rw[List.drop_take,hs.xs,List.take_take]
   congr 1
   omega
  have hAl:(c.take (off+i*2)).length=off+i*2:=by simp;omega
  have e1:(yY c (off+i*2) (xs.drop (i*2+2))).take (off+(n-1)*2)=c.take (off+i*2)++xs.drop (i*2+2):=by
   unfold yY
   exact List.take_left' (by simp only[Sa,hAl];omega)
  unfold yY at e1 ⊢
  rw[e1,List.append_assoc,List.append_assoc,List.drop_append_of_le_length (by omega),hA,←List.append_assoc,List.take_left' (by simp only[Sa,List.length_take];omega)]
 intro q hq
 simp only[yY,List.mem_append]at hq
 rcases hq with (hq|hq)|hq
 ·have:=List.mem_of_mem_take hq
  simp only[List.mem_append]at this
  rcases this with (h|h)|h
  ·exact hs.one q (List.mem_of_mem_take h)
  ·exact hs.one_xs q (List.mem_of_mem_drop h)
  exact hs.one q (List.mem_of_mem_drop h)
 ·exact hzo q hq
 have:=List.mem_of_mem_drop hq
 simp only[List.mem_append]at this
 rcases this with (h|h)|h
 ·exact hs.one q (List.mem_of_mem_take h)
 ·exact hs.one_xs q (List.mem_of_mem_drop h)
 exact hs.one q (List.mem_of_mem_drop h)
def zgh(l:List Ent):LE:=if l.length≤8 then [l] else [l.take (l.length/2),l.drop (l.length/2)]
theorem yG.cutL{w:Wl}{p:Option Addr}{c:Nat}{l:List Ent}(h:yG w (.slice p l.length c) l){i m:Nat}(hi:i≤l.length)(h1:i≤m)(h2:m≤c):yG w (cut p 0 i m 2) (l.take i):=by
 have:=zB.cut h (l:=0) (h:=i) (m:=m) (Zl _) h1 h2 hi
 unfold yG
 rw[zih,List.length_take]
 simpa[show min i l.length=i by omega] using this
theorem yG.cutR{w:Wl}{p:Option Addr}{c:Nat}{l:List Ent}(h:yG w (.slice p l.length c) l){i:Nat}(hi:i≤l.length)(hc:l.length≤c):yG w (cut p i l.length c 2) (l.drop i):=by
 have:=zB.cut h (l:=i) (h:=l.length) (m:=c) hi hc (Nat.le_refl _) (Nat.le_refl _)
 unfold yG
 rw[zgt,List.length_drop]
 rw[Tl (by simp[zf6];omega)]at this
 exact this
theorem yB.one{w:Wl}{b:Nat}{v:Va}{l:List Ent}(hb:zO w b 176 [v])(hl:yG w v l):yB w (.slice (some ⟨b,0,none⟩) 1 1) [l]:=
 ⟨[v],zB.of_blk (n:=1) hb rfl (by simp[maxLen]) (by intro u hu;simp at hu;subst hu;exact zB.one1 hl),hl,Tt⟩
theorem yB.two{w:Wl}{b:Nat}{v u:Va}{l m:List Ent}(hb:zO w b 176 [v,u])(hl:yG w v l)(hm:yG w u m):yB w (.slice (some ⟨b,0,none⟩) 2 2) [l,m]:=
 ⟨[v,u],zB.of_blk (n:=2) hb rfl (by simp[maxLen]) (by intro x hx;simp at hx;rcases hx with rfl|rfl;exact zB.one1 hl;exact zB.one1 hm),hl,hm,Tt⟩
theorem f29(p:Nat)(ls:LE)(a b:Va)(la lb:List Ent)(i:Nat)(w:Wl)(hp:Pg w p ls)(ha:yG w a la)(hb:yG w b lb)(hi:i+2≤ls.length)(hb1:ls.length≤1048576)(hla:la.length≤1048576)(hlb:lb.length≤1048576) :
 zS TP 308 #[Pt p,Ii i,.agg #[a,b]] w fun r w'=>r=.tuple #[]∧Pg w' p (ls.take i++zgh (la++lb)++ls.drop (i+2))∧zk [p] w w':=by
 have hal:=zB.len_xs ha
 have hbl:=zB.len_xs hb
 obtain⟨pa,ca,rfl,_⟩:=zB.val ha
 obtain⟨pb,cb,rfl,_⟩:=zB.val hb
 refine A3 Tryz.func308 U U ?_
 refine Sr ?_
 refine Ob U U ?_
 intro b5 w5 e5 n5 c5 k5
 refine E3 0 1 5 U (zf ?_)
 have hS:zhm w 215 2 [.slice pa la.length ca,.slice pb lb.length cb] [flat la,flat lb]:=⟨by rw[hal,Nat.mul_div_cancel _ (by omega)];exact ha,by rw[hbl,Nat.mul_div_cancel _ (by omega)];exact hb,Tt⟩
 have hsum:zb1 2 [flat la,flat lb] 2=(la++lb).length:=by
  simp only[zb1,List.take_succ_cons,List.take_zero,List.map_cons,List.map_nil,List.sum_cons,List.sum_nil,hal,hbl,Nat.mul_div_cancel _ (show 0<2 by omega),Sa]
  omega
 have hll:(la++lb).length=la.length+lb.length:=by simp
 refine za ?_
 refine Og (zK zk8 zb3 U U 0 U (by omega)) U ?_
 refine Ol zeE U (k5.cell' U) ?_
 refine Og (zK zk8 zb3 U U 1 U (by omega)) U ?_
 refine Ol zeE U (k5.cell' U) ?_
 refine Oq (zA ziF U (vs:=[_,_]) U (css:=[_,_]) ⟨U,U,Tt⟩ U U (cs:=[_,_]) U U ?_)
 intro b12 w12 e12 n12 c12 k12
 refine Oc zBu U U U (f45 _ _ [flat la,flat lb] _ (zB.of_blk (n:=2) k12 U (by simp[maxLen]) (by intro u hu;simp at hu;rcases hu with rfl|rfl<;>rfl)) (hS.chg0 (c5.trans c12)) (by simp only[List.length_cons,List.length_nil];rw[hsum];omega) (by simp)) ?_
 rintro v13 w13⟨i13,n13,c13⟩
 have hboth:yG w13 v13 (la++lb):=by unfold yG;rw[zdX];simpa[hsum] using i13
 clear i13
 generalize la++lb=both at *
 obtain⟨p13,q13,rfl,hq13⟩:=zB.val hboth
 refine Oa U (E3 0 1 6 U ?_)
 have hc13:zk [] w w13:=(c5.trans c12).trans c13
 refine zf (Sr (Om U (On yD U (Og (za7 U U) U (E4 0 1 6 16 U ?_)))))
 refine zP U (fun hT=>?_) (fun hF=>?_)
 ·have hle:both.length≤8:=by have:=of_decide_eq_true hT;omega
  refine Sr (Om U (Om U (Om U ?_)))
  refine Og (yv (v':=Ii ((i+2:Nat):Int)) (zG U U (by omega)) (by congr 1)) U ?_
  refine Om U ?_
  refine Oq (zA ziF U (vs:=[_]) U (css:=[_]) ⟨U,Tt⟩ U U (cs:=[_]) U U ?_)
  intro b22 w22 e22 n22 c22 k22
  refine Oc zj1 U U U (f26 p ls [both] _ i (i+2) _ (hp.chg0 (hc13.trans c22)) (yB.one k22 (hboth.chg0 c22)) (by omega) hi hb1 (by simp)) ?_
  rintro v23 w23⟨rfl,p23,c23⟩
  refine yO [] (F':=[]) U (zj ?_)
  refine zbW ?_
  refine zug U ?_
  refine⟨U,?_,((hc13.trans c22).any (S:=[p])).transS c23⟩
  rw[zgh,if_pos hle]
  exact p23
 have hle:¬ both.length≤8:=by have:=of_decide_eq_false hF;omega
 refine zm (Sr (Om U (On yD U ?_)))
 refine Og (yv (v':=Ii ((both.length/2:Nat):Int)) (zsP U U (by omega) (by omega)) (by congr 1)) U ?_
 refine Oa U (E4 0 1 6 7 U ?_)
 have hh:both.length/2≤both.length:=Nat.div_le_self _ _
 refine zH (fun _=>True) mix (by kernel_rfl) trivial ?_
 refine Tm U (Tm U (Tm U ?_))
 refine Tp (fun _=>yv (v':=Ii ((i+2:Nat):Int)) (zG U U (by omega)) (by congr 1)) U ?_
 refine Tm U (Tm U (Tm U ?_))
 refine Tp (fun _=>zgK yD zaA U U U _ _ U U (Nat.le_refl _) (by omega)) U ?_
 refine Tm U (Tm U ?_)
 refine Tp (fun _=>zbe yD zaA U U _ U hh) U ?_
 refine zaR U (gn U) (zA ziF U (vs:=[_,_]) U (css:=[_,_]) ⟨U,U,Tt⟩ U U (cs:=[_,_]) U U ?_)
 intro b38 w38 e38 n38 c38 k38
 refine⟨.inl trivial,?_⟩
 have hc38:zk [] w13 w38:=(zk.drew [] w13).trans c38
 refine Tc zj1 U U U (f26 p ls [both.take (both.length/2),both.drop (both.length/2)] _ i (i+2) _ (hp.chg0 (hc13.trans hc38)) (yB.two k38 ((hboth.chg0 hc38).cutL hh (Nat.le_refl _) (by omega)) ((hboth.chg0 hc38).cutR hh hq13)) (by omega) hi hb1 (by simp)) ?_
 rintro v39 w39⟨rfl,p39,c39⟩
 refine⟨.inl trivial,?_⟩
 refine zdI [] (F':=[]) U ?_
 refine zgL U ⟨U,?_,((hc13.trans hc38).any (S:=[p])).transS c39⟩
 rw[zgh,if_neg hle]
 exact p39
end Go.Wk
